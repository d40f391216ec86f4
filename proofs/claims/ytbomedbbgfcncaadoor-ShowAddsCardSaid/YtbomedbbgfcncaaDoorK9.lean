import Derived.Test.YtbomedbbgfcncaaDoorK1
import Derived.Test.YtbomedbbgfcncaaDoorK8
import Derived.Laws.Strings
import Derived.Test.YtbomedbbgfcncaaDoorBld2
import Derived.Lib.ItoaLen
import Derived.Test.YtbomedbbgfcncaaDoorRows
import Derived.Test.YtbomedbbgfcncaaDoorCk4
import Derived.Test.YtbomedbbgfcncaaDoorFmt2
import Derived.Test.YtbomedbbgfcncaaDoorK4
set_option linter.unusedVariables false
set_option linter.unusedSimpArgs false
namespace Go.EX
def x445L1 : XCode :=
 (.seq (.seq (.region [0, 3, 4, 8] [o0 5 (.mv (.t 4)),
 o0 6 (.mv (.t 0)),
 o0 7 (.len (.t 6)),
 o0 8 (.bin .lss (.t 5) (.t 7))]) (.cond (.t 8) .skip (.exit 0))) (.seq (.block 1 (.seq (.seq (.region [0, 3, 4, 17] [o0 11 (.mv (.t 0)),
 o0 12 (.mv (.t 4)),
 o0 13 (.idxA 5 (.t 11) (.t 12)),
 o0 14 (.fieldA 2 (.t 13)),
 o0 15 (.load none (.t 14)),
 o0 16 (.len (.t 15)),
 o0 17 (.bin .gtr (.t 16) (.c (.int .i64 5000)))]) (.cond (.t 17) (.seq (.region [2] [o0 2 (.mv (.c (.bool true)))]) .ret) .skip)) (.region [0, 3, 4] [o0 18 (.mv (.t 3)),
 o0 19 (.mv (.t 0)),
 o0 20 (.mv (.t 4)),
 o0 21 (.idxA 5 (.t 19) (.t 20)),
 o0 22 (.fieldA 2 (.t 21)),
 o0 23 (.load none (.t 22)),
 o0 24 (.len (.t 23)),
 o0 25 (.bin .add (.t 18) (.t 24)),
 o0 3 (.mv (.t 25))]))) (.region [0, 3, 4] [o0 9 (.mv (.t 4)),
 o0 10 (.bin .add (.t 9) (.c (.int .i64 1))),
 o0 4 (.mv (.t 10))])))
def x445 : XFun :=
 ⟨[.tmp 2],(.seq (.region [0] [o0 2 (.mv (.c (.bool false)))]) (.seq (.region [0, 3] [o0 3 (.mv (.c (.int .i64 0)))]) (.seq (.seq (.region [0, 3, 4] [o0 4 (.mv (.c (.int .i64 0)))]) (.block 0 (.loop [0, 3, 4] x445L1))) (.seq (.region [2] [o0 26 (.mv (.t 3)),
 o0 27 (.bin .gtr (.t 26) (.c (.int .i64 20000))),
 o0 28 (.mv (.t 27)),
 o1 29 28 false (.mv (.t 0)),
 o1 30 28 false (.call .view 361 [.t 29]),
 o1 31 28 false (.buildSlice 1 [(.int .i64 0)] 1 [(0, 1,(.t 30))]),
 o1 32 28 false (.call .view 303 [.t 31]),
 o0 33 (.pick (.t 28) (.c (.bool true)) (.t 32)),
 o0 2 (.mv (.t 33))]) .ret))))⟩
def x649L1 : XCode :=
 (.seq (.region [4, 9, 10, 11, 12] [o0 12 (.bin .lss (.t 11) (.t 10))]) (.seq (.cond (.t 12) .skip (.exit 0)) (.seq (.block 1 (.seq (.region [4, 6, 9, 10, 11] [o0 13 (.idxA 1 (.t 9) (.t 11)),
 o0 14 (.load none (.t 13)),
 o0 6 (.mv (.t 14))]) (.region [4, 9, 10, 11] [o0 15 (.mv (.t 4)),
 o0 16 (.mv (.t 6)),
 o0 17 (.call .share 657 [.t 16]),
 o0 18 (.bin .add (.t 15) (.t 17)),
 o0 4 (.mv (.t 18))]))) (.region [4, 9, 10, 11] [o0 19 (.bin .add (.t 11) (.c (.int .i64 1))),
 o0 11 (.mv (.t 19))]))))
def x649 : XFun :=
 ⟨[.tmp 4],(.seq (.region [0, 1, 4] [o0 4 (.mv (.c (.int .i64 0)))]) (.seq (.seq (.region [4, 9, 10, 11] [o0 7 (.mv (.t 0)),
 o0 8 (.mv (.t 1)),
 o0 9 (.call .share 654 [(.t 7),(.t 8)]),
 o0 10 (.len (.t 9)),
 o0 11 (.mv (.c (.int .i64 0)))]) (.block 0 (.loop [4, 9, 10, 11] x649L1))) (.seq (.region [4] [o0 20 (.mv (.t 4)),
 o0 4 (.mv (.t 20))]) .ret)))⟩
def x646 : XFun :=
 ⟨[.tmp 4],(.seq (.region [2, 3] [o0 2 (.box 1 (.t 0)),
 o0 3 (.box 2 (.t 1)),
 o0 4 (.mv (.c (.bool false)))]) (.seq (.region [4] [o0 5 (.load none (.t 2)),
 o0 6 (.load (some 2) (.t 3)),
 o0 7 (.call .share 656 [(.t 5),(.t 6)]),
 o0 8 (.mv (.t 7)),
 o1 9 8 true (.load none (.t 2)),
 o1 10 8 true (.load (some 2) (.t 3)),
 o1 11 8 true (.buildSlice 2 [(.int .u8 0),(.int .i64 0)] 1 [(0, 2,(.t 10))]),
 o1 12 8 true (.call .share 654 [(.t 9),(.t 11)]),
 o1 13 8 true (.mkClo 647 [.t 2]),
 o1 14 8 true (.call .share 745 [(.t 12),(.t 13)]),
 o1 15 8 true (.un .not (.t 14)),
 o0 16 (.pick (.t 8) (.t 15) (.c (.bool false))),
 o0 4 (.mv (.t 16))]) .ret))⟩
def x303L1 : XCode :=
 (.seq (.seq (.region [0, 3, 4, 8] [o0 5 (.mv (.t 4)),
 o0 6 (.mv (.t 0)),
 o0 7 (.len (.t 6)),
 o0 8 (.bin .lss (.t 5) (.t 7))]) (.cond (.t 8) .skip (.exit 0))) (.seq (.block 1 (.seq (.region [0, 3, 4] [o0 11 (.mv (.t 3)),
 o0 12 (.mv (.t 0)),
 o0 13 (.mv (.t 4)),
 o0 14 (.idxA 1 (.t 12) (.t 13)),
 o0 15 (.load none (.t 14)),
 o0 16 (.bin .add (.t 11) (.t 15)),
 o0 3 (.mv (.t 16))]) (.seq (.region [0, 3, 4, 18] [o0 17 (.mv (.t 3)),
 o0 18 (.bin .gtr (.t 17) (.c (.int .i64 1048576)))]) (.cond (.t 18) (.seq (.region [2] [o0 2 (.mv (.c (.bool true)))]) .ret) .skip)))) (.region [0, 3, 4] [o0 9 (.mv (.t 4)),
 o0 10 (.bin .add (.t 9) (.c (.int .i64 1))),
 o0 4 (.mv (.t 10))])))
def x303 : XFun :=
 ⟨[.tmp 2],(.seq (.region [0] [o0 2 (.mv (.c (.bool false)))]) (.seq (.region [0, 3] [o0 3 (.mv (.c (.int .i64 0)))]) (.seq (.seq (.region [0, 3, 4] [o0 4 (.mv (.c (.int .i64 0)))]) (.block 0 (.loop [0, 3, 4] x303L1))) (.seq (.region [2] [o0 2 (.mv (.c (.bool false)))]) .ret))))⟩
def x361 : XFun :=
 ⟨[.tmp 2],(.seq (.region [0] [o0 2 (.mv (.c (.int .i64 0)))]) (.seq (.region [2] [o0 3 (.mv (.t 0)),
 o0 4 (.call .view 339 [.t 3]),
 o0 2 (.mv (.t 4))]) .ret))⟩
def x654L1 : XCode :=
 (.seq (.seq (.region [4, 6, 7, 16] [o0 13 (.mv (.t 7)),
 o0 14 (.load none (.t 4)),
 o0 15 (.len (.t 14)),
 o0 16 (.bin .lss (.t 13) (.t 15))]) (.cond (.t 16) .skip (.exit 0))) (.seq (.block 1 (.region [4, 6, 7] [o0 19 (.mv (.t 6)),
 o0 20 (.load none (.t 4)),
 o0 21 (.mv (.t 7)),
 o0 22 (.idxA 1 (.t 20) (.t 21)),
 o0 23 (.load none (.t 22)),
 o0 24 (.nilCheck (.t 23)),
 o0 25 (.fieldA 2 (.t 24)),
 o0 26 (.load none (.t 25)),
 o0 27 (.callV (.t 19) [.t 26])])) (.region [4, 6, 7] [o0 17 (.mv (.t 7)),
 o0 18 (.bin .add (.t 17) (.c (.int .i64 1))),
 o0 7 (.mv (.t 18))])))
def x654 : XFun :=
 ⟨[.cell 4 none],(.seq (.region [1, 2, 4] [o0 2 (.box 1 (.t 0)),
 o0 4 (.alloc [(.slice none 0 0)])]) (.seq (.region [1, 2, 4, 5] [o0 8 (.makeMap none),
 o0 5 (.alloc [(.map none)]),
 o2 (.store 1 (.t 5) (.t 8))]) (.seq (.region [1, 4, 6] [o0 9 (.mkClo 655 [(.t 2),(.t 5),(.t 4)]),
 o0 6 (.mv (.t 9))]) (.seq (.region [4, 6] [o0 10 (.mv (.t 6)),
 o0 11 (.mv (.t 1)),
 o0 12 (.callV (.t 10) [.t 11])]) (.seq (.seq (.region [4, 6, 7] [o0 7 (.mv (.c (.int .i64 0)))]) (.block 0 (.loop [4, 6, 7] x654L1))) (.seq (.region [4] [o0 28 (.load none (.t 4)),
 o2 (.store 1 (.t 4) (.t 28))]) .ret))))))⟩
def x657 : XFun :=
 ⟨[.tmp 2],(.seq (.region [0] [o0 2 (.mv (.c (.int .i64 0)))]) (.seq (.seq (.region [0, 6] [o0 3 (.mv (.t 0)),
 o0 4 (.nilCheck (.t 3)),
 o0 5 (.fieldA 0 (.t 4)),
 o0 6 (.load none (.t 5))]) (.block 0 (.seq (.region [0, 6, 7] [o0 8 (.bin .eql (.t 6) (.c (.int .u8 3))),
 o0 7 (.mv (.t 8))]) (.cond (.t 7) (.seq (.region [2] [o0 9 (.mv (.t 0)),
 o0 10 (.nilCheck (.t 9)),
 o0 11 (.fieldA 1 (.t 10)),
 o0 12 (.load none (.t 11)),
 o0 13 (.lenS (.t 12)),
 o0 14 (.bin .add (.t 13) (.c (.int .i64 7))),
 o0 15 (.bin .quo (.t 14) (.c (.int .i64 8))),
 o0 16 (.bin .add (.c (.int .i64 2)) (.t 15)),
 o0 2 (.mv (.t 16))]) .ret) (.seq (.seq (.region [0, 6, 17] [o0 18 (.bin .eql (.t 6) (.c (.int .u8 4))),
 o0 17 (.mv (.t 18))]) (.cond (.t 17) .skip (.region [0, 6, 17] [o0 19 (.bin .eql (.t 6) (.c (.int .u8 5))),
 o0 17 (.mv (.t 19))]))) (.cond (.t 17) (.seq (.seq (.region [0, 24] [o0 20 (.mv (.t 0)),
 o0 21 (.nilCheck (.t 20)),
 o0 22 (.fieldA 3 (.t 21)),
 o0 23 (.load none (.t 22)),
 o0 24 (.bin .gtr (.t 23) (.c (.int .i64 0)))]) (.cond (.t 24) (.seq (.region [2] [o0 25 (.mv (.t 0)),
 o0 26 (.nilCheck (.t 25)),
 o0 27 (.fieldA 3 (.t 26)),
 o0 28 (.load none (.t 27)),
 o0 29 (.bin .mul (.c (.int .i64 2)) (.t 28)),
 o0 30 (.bin .add (.c (.int .i64 4)) (.t 29)),
 o0 2 (.mv (.t 30))]) .ret) .skip)) (.seq (.region [2] [o0 2 (.mv (.c (.int .i64 3)))]) .ret)) (.seq (.region [0, 31] [o0 32 (.bin .eql (.t 6) (.c (.int .u8 6))),
 o0 31 (.mv (.t 32))]) (.cond (.t 31) (.seq (.region [2] [o0 33 (.mv (.t 0)),
 o0 34 (.nilCheck (.t 33)),
 o0 35 (.fieldA 2 (.t 34)),
 o0 36 (.load none (.t 35)),
 o0 37 (.len (.t 36)),
 o0 38 (.bin .mul (.c (.int .i64 2)) (.t 37)),
 o0 39 (.bin .add (.c (.int .i64 2)) (.t 38)),
 o0 2 (.mv (.t 39))]) .ret) .skip)))))))) (.seq (.region [2] [o0 2 (.mv (.c (.int .i64 3)))]) .ret)))⟩
def x656 : XFun :=
 ⟨[.tmp 4],(.seq (.region [0, 3] [o0 3 (.box 2 (.t 1)),
 o0 4 (.mv (.c (.bool false)))]) (.seq (.seq (.region [0, 3, 6] [o0 5 (.fieldA 0 (.t 3)),
 o0 6 (.load none (.t 5))]) (.block 0 (.seq (.region [0, 3, 6, 7] [o0 8 (.bin .eql (.t 6) (.c (.int .u8 0))),
 o0 7 (.mv (.t 8))]) (.cond (.t 7) (.seq (.region [4] [o0 9 (.fieldA 1 (.t 3)),
 o0 10 (.load none (.t 9)),
 o0 11 (.bin .eql (.t 10) (.c (.int .i64 0))),
 o0 4 (.mv (.t 11))]) .ret) (.seq (.region [0, 3, 6, 12] [o0 13 (.bin .eql (.t 6) (.c (.int .u8 1))),
 o0 12 (.mv (.t 13))]) (.cond (.t 12) (.seq (.region [4] [o0 14 (.fieldA 1 (.t 3)),
 o0 15 (.load none (.t 14)),
 o0 16 (.bin .eql (.t 15) (.c (.int .i64 0))),
 o0 17 (.mv (.t 16)),
 o1 18 17 false (.fieldA 1 (.t 3)),
 o1 19 17 false (.load none (.t 18)),
 o1 20 17 false (.bin .eql (.t 19) (.c (.int .i64 1))),
 o0 21 (.pick (.t 17) (.c (.bool true)) (.t 20)),
 o0 4 (.mv (.t 21))]) .ret) (.seq (.region [0, 3, 22] [o0 23 (.bin .eql (.t 6) (.c (.int .u8 2))),
 o0 22 (.mv (.t 23))]) (.cond (.t 22) (.seq (.region [4] [o0 4 (.mv (.c (.bool true)))]) .ret) .skip)))))))) (.seq (.region [4] [o0 24 (.mv (.t 0)),
 o0 25 (.load (some 2) (.t 3)),
 o0 26 (.call .share 651 [(.t 24),(.t 25)]),
 o0 27 (.eqNil true 1 (.t 26)),
 o0 4 (.mv (.t 27))]) .ret)))⟩
def x745 : XFun :=
 ⟨[.tmp 4],(.seq (.region [0, 1] [o0 4 (.mv (.c (.bool false)))]) (.seq (.region [4] [o0 5 (.mv (.t 0)),
 o0 6 (.mv (.t 1)),
 o0 7 (.call .share 755 [(.t 5),(.t 6)]),
 o0 8 (.bin .geq (.t 7) (.c (.int .i64 0))),
 o0 4 (.mv (.t 8))]) .ret))⟩
def x647 : XFun :=
 ⟨[.tmp 3],(.seq (.region [0, 1] [o0 3 (.mv (.c (.bool false)))]) (.seq (.region [3] [o0 4 (.load none (.t 1)),
 o0 5 (.mv (.t 0)),
 o0 6 (.call .share 652 [(.t 4),(.t 5)]),
 o0 7 (.un .not (.t 6)),
 o0 3 (.mv (.t 7))]) .ret))⟩
def x652 : XFun :=
 ⟨[.tmp 4],(.seq (.region [2, 3] [o0 2 (.box 1 (.t 0)),
 o0 3 (.box 1 (.t 1)),
 o0 4 (.mv (.c (.bool false)))]) (.seq (.region [2, 3, 5] [o0 7 (.load none (.t 3)),
 o0 8 (.nilCheck (.t 7)),
 o0 9 (.fieldA 2 (.t 8)),
 o0 10 (.load none (.t 9)),
 o0 11 (.len (.t 10)),
 o0 5 (.mv (.t 11))]) (.seq (.region [2, 3, 5, 6] [o0 12 (.load none (.t 3)),
 o0 13 (.nilCheck (.t 12)),
 o0 14 (.fieldA 1 (.t 13)),
 o0 15 (.load none (.t 14)),
 o0 16 (.bin .eql (.t 15) (.c (.string .empty))),
 o0 17 (.mv (.t 16)),
 o1 18 17 true (.load none (.t 3)),
 o1 19 17 true (.nilCheck (.t 18)),
 o1 20 17 true (.fieldA 4 (.t 19)),
 o1 21 17 true (.load none (.t 20)),
 o1 22 17 true (.bin .eql (.t 21) (.c (.int .i64 0))),
 o0 23 (.pick (.t 17) (.t 22) (.c (.bool false))),
 o0 24 (.mv (.t 23)),
 o1 25 24 true (.load none (.t 3)),
 o1 26 24 true (.nilCheck (.t 25)),
 o1 27 24 true (.fieldA 3 (.t 26)),
 o1 28 24 true (.load none (.t 27)),
 o1 29 24 true (.mv (.t 5)),
 o1 30 24 true (.bin .geq (.t 28) (.t 29)),
 o0 31 (.pick (.t 24) (.t 30) (.c (.bool false))),
 o0 32 (.mv (.t 31)),
 o1 33 32 true (.load none (.t 3)),
 o1 34 32 true (.nilCheck (.t 33)),
 o1 35 32 true (.fieldA 3 (.t 34)),
 o1 36 32 true (.load none (.t 35)),
 o1 37 32 true (.bin .leq (.t 36) (.c (.int .i64 262144))),
 o0 38 (.pick (.t 32) (.t 37) (.c (.bool false))),
 o0 6 (.mv (.t 38))]) (.seq (.seq (.region [2, 3, 5, 6, 44] [o0 39 (.load none (.t 3)),
 o0 40 (.nilCheck (.t 39)),
 o0 41 (.fieldA 2 (.t 40)),
 o0 42 (.load none (.t 41)),
 o0 43 (.mkClo 653 [(.t 2),(.t 3)]),
 o0 44 (.call .share 749 [(.t 42),(.t 43)])]) (.cond (.t 44) (.seq (.region [4] [o0 4 (.mv (.c (.bool false)))]) .ret) .skip)) (.seq (.seq (.region [2, 3, 5, 6, 48] [o0 45 (.load none (.t 3)),
 o0 46 (.nilCheck (.t 45)),
 o0 47 (.fieldA 0 (.t 46)),
 o0 48 (.load none (.t 47))]) (.block 0 (.seq (.region [2, 3, 5, 6, 48, 49] [o0 50 (.bin .eql (.t 48) (.c (.int .u8 3))),
 o0 49 (.mv (.t 50))]) (.cond (.t 49) (.seq (.region [4] [o0 51 (.load none (.t 3)),
 o0 52 (.nilCheck (.t 51)),
 o0 53 (.fieldA 1 (.t 52)),
 o0 54 (.load none (.t 53)),
 o0 55 (.lenS (.t 54)),
 o0 56 (.bin .leq (.t 55) (.c (.int .i64 4096))),
 o0 57 (.mv (.t 56)),
 o1 58 57 true (.mv (.t 5)),
 o1 59 57 true (.bin .eql (.t 58) (.c (.int .i64 0))),
 o0 60 (.pick (.t 57) (.t 59) (.c (.bool false))),
 o0 61 (.mv (.t 60)),
 o1 62 61 true (.load none (.t 3)),
 o1 63 61 true (.nilCheck (.t 62)),
 o1 64 61 true (.fieldA 3 (.t 63)),
 o1 65 61 true (.load none (.t 64)),
 o1 66 61 true (.bin .eql (.t 65) (.c (.int .i64 0))),
 o0 67 (.pick (.t 61) (.t 66) (.c (.bool false))),
 o0 68 (.mv (.t 67)),
 o1 69 68 true (.load none (.t 3)),
 o1 70 68 true (.nilCheck (.t 69)),
 o1 71 68 true (.fieldA 4 (.t 70)),
 o1 72 68 true (.load none (.t 71)),
 o1 73 68 true (.bin .eql (.t 72) (.c (.int .i64 0))),
 o0 74 (.pick (.t 68) (.t 73) (.c (.bool false))),
 o0 4 (.mv (.t 74))]) .ret) (.seq (.region [2, 3, 5, 6, 48, 75] [o0 76 (.bin .eql (.t 48) (.c (.int .u8 4))),
 o0 75 (.mv (.t 76))]) (.cond (.t 75) (.seq (.region [4] [o0 77 (.mv (.t 6)),
 o0 78 (.mv (.t 77)),
 o1 79 78 true (.mv (.t 5)),
 o1 80 78 true (.bin .leq (.t 79) (.c (.int .i64 65536))),
 o0 81 (.pick (.t 78) (.t 80) (.c (.bool false))),
 o0 4 (.mv (.t 81))]) .ret) (.seq (.region [2, 3, 5, 6, 48, 82] [o0 83 (.bin .eql (.t 48) (.c (.int .u8 5))),
 o0 82 (.mv (.t 83))]) (.cond (.t 82) (.seq (.region [4] [o0 84 (.mv (.t 6)),
 o0 85 (.mv (.t 84)),
 o1 86 85 true (.mv (.t 5)),
 o1 87 85 true (.bin .rem (.t 86) (.c (.int .i64 2))),
 o1 88 85 true (.bin .eql (.t 87) (.c (.int .i64 0))),
 o0 89 (.pick (.t 85) (.t 88) (.c (.bool false))),
 o0 90 (.mv (.t 89)),
 o1 91 90 true (.mv (.t 5)),
 o1 92 90 true (.bin .leq (.t 91) (.c (.int .i64 131072))),
 o0 93 (.pick (.t 90) (.t 92) (.c (.bool false))),
 o0 94 (.mv (.t 93)),
 o1 95 94 true (.load none (.t 2)),
 o1 96 94 true (.load none (.t 3)),
 o1 97 94 true (.nilCheck (.t 96)),
 o1 98 94 true (.fieldA 2 (.t 97)),
 o1 99 94 true (.load none (.t 98)),
 o1 100 94 true (.call .share 650 [(.t 95),(.t 99)]),
 o0 101 (.pick (.t 94) (.t 100) (.c (.bool false))),
 o0 4 (.mv (.t 101))]) .ret) (.seq (.region [3, 5, 102] [o0 103 (.bin .eql (.t 48) (.c (.int .u8 6))),
 o0 102 (.mv (.t 103))]) (.cond (.t 102) (.seq (.region [4] [o0 104 (.load none (.t 3)),
 o0 105 (.nilCheck (.t 104)),
 o0 106 (.fieldA 1 (.t 105)),
 o0 107 (.load none (.t 106)),
 o0 108 (.bin .eql (.t 107) (.c (.string .empty))),
 o0 109 (.mv (.t 108)),
 o1 110 109 true (.load none (.t 3)),
 o1 111 109 true (.nilCheck (.t 110)),
 o1 112 109 true (.fieldA 3 (.t 111)),
 o1 113 109 true (.load none (.t 112)),
 o1 114 109 true (.bin .eql (.t 113) (.c (.int .i64 0))),
 o0 115 (.pick (.t 109) (.t 114) (.c (.bool false))),
 o0 116 (.mv (.t 115)),
 o1 117 116 true (.load none (.t 3)),
 o1 118 116 true (.nilCheck (.t 117)),
 o1 119 116 true (.fieldA 4 (.t 118)),
 o1 120 116 true (.load none (.t 119)),
 o1 121 116 true (.bin .geq (.t 120) (.c (.int .i64 0))),
 o0 122 (.pick (.t 116) (.t 121) (.c (.bool false))),
 o0 123 (.mv (.t 122)),
 o1 124 123 true (.load none (.t 3)),
 o1 125 123 true (.nilCheck (.t 124)),
 o1 126 123 true (.fieldA 4 (.t 125)),
 o1 127 123 true (.load none (.t 126)),
 o1 128 123 true (.bin .lss (.t 127) (.c (.int .i64 256))),
 o0 129 (.pick (.t 123) (.t 128) (.c (.bool false))),
 o0 4 (.mv (.t 129))]) .ret) .skip)))))))))) (.seq (.region [4] [o0 130 (.load none (.t 3)),
 o0 131 (.nilCheck (.t 130)),
 o0 132 (.fieldA 1 (.t 131)),
 o0 133 (.load none (.t 132)),
 o0 134 (.bin .eql (.t 133) (.c (.string .empty))),
 o0 135 (.mv (.t 134)),
 o1 136 135 true (.load none (.t 3)),
 o1 137 135 true (.nilCheck (.t 136)),
 o1 138 135 true (.fieldA 3 (.t 137)),
 o1 139 135 true (.load none (.t 138)),
 o1 140 135 true (.bin .eql (.t 139) (.c (.int .i64 0))),
 o0 141 (.pick (.t 135) (.t 140) (.c (.bool false))),
 o0 142 (.mv (.t 141)),
 o1 143 142 true (.load none (.t 3)),
 o1 144 142 true (.nilCheck (.t 143)),
 o1 145 142 true (.fieldA 4 (.t 144)),
 o1 146 142 true (.load none (.t 145)),
 o1 147 142 true (.bin .eql (.t 146) (.c (.int .i64 0))),
 o0 148 (.pick (.t 142) (.t 147) (.c (.bool false))),
 o0 149 (.mv (.t 148)),
 o1 150 149 true (.mv (.t 5)),
 o1 151 149 true (.bin .eql (.t 150) (.c (.int .i64 1))),
 o0 152 (.pick (.t 149) (.t 151) (.c (.bool false))),
 o0 4 (.mv (.t 152))]) .ret))))))⟩
def x339L1 : XCode :=
 (.seq (.seq (.region [0, 3, 4, 14] [o0 7 (.mv (.t 4)),
 o0 8 (.mv (.t 0)),
 o0 9 (.len (.t 8)),
 o0 10 (.bin .lss (.t 7) (.t 9)),
 o0 11 (.mv (.t 10)),
 o1 12 11 true (.mv (.t 3)),
 o1 13 11 true (.bin .leq (.t 12) (.c (.int .i64 1048576))),
 o0 14 (.pick (.t 11) (.t 13) (.c (.bool false)))]) (.cond (.t 14) .skip (.exit 0))) (.seq (.block 1 (.region [0, 3, 4] [o0 17 (.mv (.t 3)),
 o0 18 (.mv (.t 0)),
 o0 19 (.mv (.t 4)),
 o0 20 (.idxA 5 (.t 18) (.t 19)),
 o0 21 (.load (some 5) (.t 20)),
 o0 22 (.call .view 338 [.t 21]),
 o0 23 (.bin .add (.t 17) (.t 22)),
 o0 3 (.mv (.t 23))])) (.region [0, 3, 4] [o0 15 (.mv (.t 4)),
 o0 16 (.bin .add (.t 15) (.c (.int .i64 1))),
 o0 4 (.mv (.t 16))])))
def x339 : XFun :=
 ⟨[.tmp 2],(.seq (.region [0] [o0 2 (.mv (.c (.int .i64 0)))]) (.seq (.region [0, 3] [o0 5 (.mv (.t 0)),
 o0 6 (.len (.t 5)),
 o0 3 (.mv (.t 6))]) (.seq (.seq (.region [0, 3, 4] [o0 4 (.mv (.c (.int .i64 0)))]) (.block 0 (.loop [0, 3, 4] x339L1))) (.seq (.region [2] [o0 24 (.mv (.t 3)),
 o0 2 (.mv (.t 24))]) .ret))))⟩
def x655L1 : XCode :=
 (.seq (.region [1, 2, 3, 8, 9, 10, 11] [o0 11 (.bin .lss (.t 10) (.t 9))]) (.seq (.cond (.t 11) .skip (.exit 0)) (.seq (.block 1 (.seq (.region [1, 2, 3, 6, 8, 9, 10] [o0 12 (.idxA 2 (.t 8) (.t 10)),
 o0 13 (.load (some 2) (.t 12)),
 o0 6 (.alloc [(.int .u8 0),(.int .i64 0)]),
 o2 (.store 2 (.t 6) (.t 13))]) (.seq (.region [1, 2, 3, 7, 8, 9, 10] [o0 14 (.load none (.t 1)),
 o0 15 (.load (some 2) (.t 6)),
 o0 16 (.call .share 651 [(.t 14),(.t 15)]),
 o0 7 (.mv (.t 16))]) (.seq (.region [1, 2, 3, 7, 8, 9, 10, 24] [o0 17 (.mv (.t 7)),
 o0 18 (.eqNil true 1 (.t 17)),
 o0 19 (.mv (.t 18)),
 o1 20 19 true (.load none (.t 2)),
 o1 21 19 true (.mv (.t 7)),
 o1 22 19 true (.lookup 3 [(.bool false)] false (.t 20) (.t 21) false),
 o1 23 19 true (.un .not (.t 22)),
 o0 24 (.pick (.t 19) (.t 23) (.c (.bool false)))]) (.cond (.t 24) (.seq (.region [1, 2, 3, 7, 8, 9, 10] [o0 25 (.load none (.t 2)),
 o0 26 (.mv (.t 7)),
 o2 (.mapSet 3 (.t 25) (.t 26) (.c (.bool true)))]) (.region [1, 2, 3, 8, 9, 10] [o0 27 (.load none (.t 3)),
 o0 28 (.mv (.t 7)),
 o0 29 (.buildSlice 1 [(.pointer none)] 1 [(0, 1,(.t 28))]),
 o0 30 (.append 1 8 (.t 27) (.t 29)),
 o2 (.store 1 (.t 3) (.t 30))])) .skip))))) (.region [1, 2, 3, 8, 9, 10] [o0 31 (.bin .add (.t 10) (.c (.int .i64 1))),
 o0 10 (.mv (.t 31))]))))
def x655 : XFun :=
 ⟨[],(.seq (.region [1, 2, 3, 8, 9, 10] [o0 8 (.mv (.t 0)),
 o0 9 (.len (.t 8)),
 o0 10 (.mv (.c (.int .i64 0)))]) (.block 0 (.loop [1, 2, 3, 8, 9, 10] x655L1)))⟩
def x651 : XFun :=
 ⟨[.tmp 4],(.seq (.region [0, 3] [o0 3 (.box 2 (.t 1)),
 o0 4 (.mv (.c (.pointer none)))]) (.seq (.seq (.region [0, 3, 36] [o0 5 (.fieldA 0 (.t 3)),
 o0 6 (.load none (.t 5)),
 o0 7 (.bin .lss (.t 6) (.c (.int .u8 3))),
 o0 8 (.mv (.t 7)),
 o1 9 8 false (.fieldA 0 (.t 3)),
 o1 10 8 false (.load none (.t 9)),
 o1 11 8 false (.bin .gtr (.t 10) (.c (.int .u8 7))),
 o0 12 (.pick (.t 8) (.c (.bool true)) (.t 11)),
 o0 13 (.mv (.t 12)),
 o1 14 13 false (.fieldA 1 (.t 3)),
 o1 15 13 false (.load none (.t 14)),
 o1 16 13 false (.bin .lss (.t 15) (.c (.int .i64 1))),
 o0 17 (.pick (.t 13) (.c (.bool true)) (.t 16)),
 o0 18 (.mv (.t 17)),
 o1 19 18 false (.fieldA 1 (.t 3)),
 o1 20 18 false (.load none (.t 19)),
 o1 21 18 false (.mv (.t 0)),
 o1 22 18 false (.len (.t 21)),
 o1 23 18 false (.bin .gtr (.t 20) (.t 22)),
 o0 24 (.pick (.t 18) (.c (.bool true)) (.t 23)),
 o0 25 (.mv (.t 24)),
 o1 26 25 false (.mv (.t 0)),
 o1 27 25 false (.fieldA 1 (.t 3)),
 o1 28 25 false (.load none (.t 27)),
 o1 29 25 false (.bin .sub (.t 28) (.c (.int .i64 1))),
 o1 30 25 false (.idxA 5 (.t 26) (.t 29)),
 o1 31 25 false (.fieldA 0 (.t 30)),
 o1 32 25 false (.load none (.t 31)),
 o1 33 25 false (.fieldA 0 (.t 3)),
 o1 34 25 false (.load none (.t 33)),
 o1 35 25 false (.bin .neq (.t 32) (.t 34)),
 o0 36 (.pick (.t 25) (.c (.bool true)) (.t 35))]) (.cond (.t 36) (.seq (.region [4] [o0 4 (.mv (.c (.pointer none)))]) .ret) .skip)) (.seq (.region [4] [o0 37 (.mv (.t 0)),
 o0 38 (.fieldA 1 (.t 3)),
 o0 39 (.load none (.t 38)),
 o0 40 (.bin .sub (.t 39) (.c (.int .i64 1))),
 o0 41 (.idxA 5 (.t 37) (.t 40)),
 o0 4 (.mv (.t 41))]) .ret)))⟩
def x755L1 : XCode :=
 (.seq (.region [0, 1, 7, 8, 9] [o0 9 (.bin .lss (.t 8) (.t 7))]) (.seq (.cond (.t 9) .skip (.exit 0)) (.seq (.block 1 (.seq (.region [0, 1, 5, 7, 8] [o0 10 (.mv (.t 8)),
 o0 5 (.mv (.t 10))]) (.seq (.region [0, 1, 5, 7, 8, 16] [o0 11 (.mv (.t 1)),
 o0 12 (.mv (.t 0)),
 o0 13 (.mv (.t 5)),
 o0 14 (.idxA 1 (.t 12) (.t 13)),
 o0 15 (.load none (.t 14)),
 o0 16 (.callV (.t 11) [.t 15])]) (.cond (.t 16) (.seq (.region [4] [o0 17 (.mv (.t 5)),
 o0 4 (.mv (.t 17))]) .ret) .skip)))) (.region [0, 1, 7, 8] [o0 18 (.bin .add (.t 8) (.c (.int .i64 1))),
 o0 8 (.mv (.t 18))]))))
def x755 : XFun :=
 ⟨[.tmp 4],(.seq (.region [0, 1] [o0 4 (.mv (.c (.int .i64 0)))]) (.seq (.seq (.region [0, 1, 7, 8] [o0 6 (.mv (.t 0)),
 o0 7 (.len (.t 6)),
 o0 8 (.mv (.c (.int .i64 0)))]) (.block 0 (.loop [0, 1, 7, 8] x755L1))) (.seq (.region [4] [o0 4 (.mv (.c (.int .i64 (-1))))]) .ret)))⟩
def x749 : XFun :=
 ⟨[.tmp 4],(.seq (.region [0, 1] [o0 4 (.mv (.c (.bool false)))]) (.seq (.region [4] [o0 5 (.mv (.t 0)),
 o0 6 (.mv (.t 1)),
 o0 7 (.call .share 759 [(.t 5),(.t 6)]),
 o0 8 (.bin .geq (.t 7) (.c (.int .i64 0))),
 o0 4 (.mv (.t 8))]) .ret))⟩
def x653 : XFun :=
 ⟨[.tmp 4],(.seq (.region [1, 2, 3] [o0 3 (.box 2 (.t 0)),
 o0 4 (.mv (.c (.bool false)))]) (.seq (.region [4] [o0 5 (.load none (.t 1)),
 o0 6 (.load (some 2) (.t 3)),
 o0 7 (.call .peek 656 [(.t 5),(.t 6)]),
 o0 8 (.un .not (.t 7)),
 o0 9 (.mv (.t 8)),
 o1 10 9 false (.fieldA 0 (.t 3)),
 o1 11 9 false (.load none (.t 10)),
 o1 12 9 false (.bin .eql (.t 11) (.c (.int .u8 7))),
 o1 13 9 false (.load none (.t 2)),
 o1 14 9 false (.nilCheck (.t 13)),
 o1 15 9 false (.fieldA 0 (.t 14)),
 o1 16 9 false (.load none (.t 15)),
 o1 17 9 false (.bin .eql (.t 16) (.c (.int .u8 6))),
 o1 18 9 false (.binB .neq (.t 12) (.t 17)),
 o0 19 (.pick (.t 9) (.c (.bool true)) (.t 18)),
 o0 4 (.mv (.t 19))]) .ret))⟩
def x650L1 : XCode :=
 (.seq (.seq (.region [0, 1, 5, 6, 13] [o0 10 (.mv (.t 6)),
 o0 11 (.mv (.t 1)),
 o0 12 (.len (.t 11)),
 o0 13 (.bin .lss (.t 10) (.t 12))]) (.cond (.t 13) .skip (.exit 0))) (.seq (.block 1 (.seq (.region [0, 1, 5, 6, 7] [o0 16 (.mv (.t 1)),
 o0 17 (.mv (.t 6)),
 o0 18 (.idxA 2 (.t 16) (.t 17)),
 o0 19 (.load (some 2) (.t 18)),
 o0 20 (.build [(.int .u8 0),(.int .i64 0),(.string .empty)] [(0, 2,(.t 19))]),
 o0 7 (.alloc [(.int .u8 0),(.int .i64 0),(.string .empty)]),
 o2 (.store 3 (.t 7) (.t 20))]) (.seq (.seq (.region [0, 1, 5, 6, 7, 8] [o0 21 (.mv (.t 0)),
 o0 22 (.mv (.t 1)),
 o0 23 (.mv (.t 6)),
 o0 24 (.idxA 2 (.t 22) (.t 23)),
 o0 25 (.load (some 2) (.t 24)),
 o0 26 (.call .share 651 [(.t 21),(.t 25)]),
 o0 8 (.mv (.t 26))]) (.seq (.region [0, 1, 5, 6, 7, 8, 36] [o0 27 (.mv (.t 1)),
 o0 28 (.mv (.t 6)),
 o0 29 (.idxA 2 (.t 27) (.t 28)),
 o0 30 (.fieldA 0 (.t 29)),
 o0 31 (.load none (.t 30)),
 o0 32 (.bin .eql (.t 31) (.c (.int .u8 3))),
 o0 33 (.mv (.t 32)),
 o1 34 33 true (.mv (.t 8)),
 o1 35 33 true (.eqNil true 1 (.t 34)),
 o0 36 (.pick (.t 33) (.t 35) (.c (.bool false)))]) (.cond (.t 36) (.region [0, 1, 5, 6, 7] [o0 37 (.build [(.int .u8 0),(.int .i64 0)] [(0, 1,(.c (.int .u8 3)))]),
 o0 38 (.mv (.t 8)),
 o0 39 (.nilCheck (.t 38)),
 o0 40 (.fieldA 1 (.t 39)),
 o0 41 (.load none (.t 40)),
 o0 42 (.build [(.int .u8 0),(.int .i64 0),(.string .empty)] [(0, 2,(.t 37)),(2, 1,(.t 41))]),
 o2 (.store 3 (.t 7) (.t 42))]) .skip))) (.region [0, 1, 5, 6] [o0 43 (.mv (.t 5)),
 o0 44 (.load (some 3) (.t 7)),
 o2 (.mapSet 57 (.t 43) (.t 44) (.c (.bool true)))])))) (.region [0, 1, 5, 6] [o0 14 (.mv (.t 6)),
 o0 15 (.bin .add (.t 14) (.c (.int .i64 2))),
 o0 6 (.mv (.t 15))])))
def x650 : XFun :=
 ⟨[.tmp 4],(.seq (.region [0, 1] [o0 4 (.mv (.c (.bool false)))]) (.seq (.region [0, 1, 5] [o0 9 (.makeMap none),
 o0 5 (.mv (.t 9))]) (.seq (.seq (.region [0, 1, 5, 6] [o0 6 (.mv (.c (.int .i64 0)))]) (.block 0 (.loop [0, 1, 5, 6] x650L1))) (.seq (.region [4] [o0 45 (.mv (.t 5)),
 o0 46 (.lenM (.t 45)),
 o0 47 (.mv (.t 1)),
 o0 48 (.len (.t 47)),
 o0 49 (.bin .quo (.t 48) (.c (.int .i64 2))),
 o0 50 (.bin .eql (.t 46) (.t 49)),
 o0 4 (.mv (.t 50))]) .ret))))⟩
def x338 : XFun :=
 ⟨[.tmp 2],(.seq (.region [1] [o0 1 (.box 5 (.t 0)),
 o0 2 (.mv (.c (.int .i64 0)))]) (.seq (.region [1, 3] [o0 4 (.fieldA 1 (.t 1)),
 o0 5 (.load none (.t 4)),
 o0 6 (.lenS (.t 5)),
 o0 7 (.bin .add (.c (.int .i64 1)) (.t 6)),
 o0 3 (.mv (.t 7))]) (.seq (.seq (.region [1, 3, 9] [o0 8 (.mv (.t 3)),
 o0 9 (.bin .leq (.t 8) (.c (.int .i64 1048576)))]) (.cond (.t 9) (.region [3] [o0 10 (.mv (.t 3)),
 o0 11 (.fieldA 2 (.t 1)),
 o0 12 (.load none (.t 11)),
 o0 13 (.call .view 380 [.t 12]),
 o0 14 (.bin .add (.t 10) (.t 13)),
 o0 3 (.mv (.t 14))]) .skip)) (.seq (.region [2] [o0 15 (.mv (.t 3)),
 o0 2 (.mv (.t 15))]) .ret))))⟩
def x759L1 : XCode :=
 (.seq (.region [0, 1, 7, 8, 9] [o0 9 (.bin .lss (.t 8) (.t 7))]) (.seq (.cond (.t 9) .skip (.exit 0)) (.seq (.block 1 (.seq (.region [0, 1, 5, 7, 8] [o0 10 (.mv (.t 8)),
 o0 5 (.mv (.t 10))]) (.seq (.region [0, 1, 5, 7, 8, 16] [o0 11 (.mv (.t 1)),
 o0 12 (.mv (.t 0)),
 o0 13 (.mv (.t 5)),
 o0 14 (.idxA 2 (.t 12) (.t 13)),
 o0 15 (.load (some 2) (.t 14)),
 o0 16 (.callV (.t 11) [.t 15])]) (.cond (.t 16) (.seq (.region [4] [o0 17 (.mv (.t 5)),
 o0 4 (.mv (.t 17))]) .ret) .skip)))) (.region [0, 1, 7, 8] [o0 18 (.bin .add (.t 8) (.c (.int .i64 1))),
 o0 8 (.mv (.t 18))]))))
def x759 : XFun :=
 ⟨[.tmp 4],(.seq (.region [0, 1] [o0 4 (.mv (.c (.int .i64 0)))]) (.seq (.seq (.region [0, 1, 7, 8] [o0 6 (.mv (.t 0)),
 o0 7 (.len (.t 6)),
 o0 8 (.mv (.c (.int .i64 0)))]) (.block 0 (.loop [0, 1, 7, 8] x759L1))) (.seq (.region [4] [o0 4 (.mv (.c (.int .i64 (-1))))]) .ret)))⟩
def x380 : XFun :=
 ⟨[.tmp 2],(.seq (.region [0] [o0 2 (.mv (.c (.int .i64 0)))]) (.seq (.region [2] [o0 3 (.mv (.t 0)),
 o0 4 (.len (.t 3)),
 o0 2 (.mv (.t 4))]) .ret))⟩
end Go.EX


namespace Go.EX
def x440 : XFun :=
 ⟨[.tmp 4],(.seq (.region [0, 3] [o0 3 (.box 2 (.t 1)),
 o0 4 (.mv (.c (.bool false)))]) (.seq (.seq (.region [0, 3, 12] [o0 7 (.call .view 444 []),
 o0 8 (.un .not (.t 7)),
 o0 9 (.mv (.t 8)),
 o1 10 9 false (.mv (.t 0)),
 o1 11 9 false (.call .view 445 [.t 10]),
 o0 12 (.pick (.t 9) (.c (.bool true)) (.t 11))]) (.cond (.t 12) (.seq (.region [4] [o0 13 (.call .view 444 []),
 o0 4 (.mv (.t 13))]) .ret) .skip)) (.seq (.region [5, 6] [o0 15 (.mv (.t 0)),
 o0 16 (.load (some 2) (.t 3)),
 o0 17 (.call .view 648 [(.t 15),(.t 16)]),
 o0 14 (.mv (.t 17)),
 o0 18 (.extract (.t 14) 0),
 o0 19 (.extract (.t 14) 1),
 o0 5 (.mv (.t 18)),
 o0 6 (.mv (.t 19))]) (.seq (.region [4] [o0 20 (.mv (.t 5)),
 o0 21 (.lenS (.t 20)),
 o0 22 (.bin .leq (.t 21) (.c (.int .i64 4096))),
 o0 23 (.mv (.t 22)),
 o1 24 23 true (.mv (.t 6)),
 o1 25 23 true (.mv (.t 24)),
 o1 26 25 false (.mv (.t 5)),
 o1 27 25 false (.bin .eql (.t 26) (.c (.string .empty))),
 o1 28 23 true (.pick (.t 25) (.c (.bool true)) (.t 27)),
 o0 29 (.pick (.t 23) (.t 28) (.c (.bool false))),
 o0 4 (.mv (.t 29))]) .ret))))⟩
def x438L1 : XCode :=
 (.seq (.seq (.region [0, 1, 2, 7, 32] [o0 29 (.mv (.t 7)),
 o0 30 (.mv (.t 0)),
 o0 31 (.len (.t 30)),
 o0 32 (.bin .lss (.t 29) (.t 31))]) (.cond (.t 32) .skip (.exit 0))) (.seq (.block 1 (.seq (.region [0, 1, 2, 7, 40] [o0 35 (.mv (.t 0)),
 o0 36 (.mv (.t 7)),
 o0 37 (.idxA 5 (.t 35) (.t 36)),
 o0 38 (.fieldA 3 (.t 37)),
 o0 39 (.load none (.t 38)),
 o0 40 (.bin .gtr (.t 39) (.c (.int .i64 1099511627776)))]) (.cond (.t 40) (.seq (.region [6] [o0 6 (.mv (.c (.bool true)))]) .ret) .skip))) (.region [0, 1, 2, 7] [o0 33 (.mv (.t 7)),
 o0 34 (.bin .add (.t 33) (.c (.int .i64 1))),
 o0 7 (.mv (.t 34))])))
def x648 : XFun :=
 ⟨[.tmp 4,.tmp 5],(.seq (.region [0, 3] [o0 3 (.box 2 (.t 1)),
 o0 4 (.mv (.c (.string .empty))),
 o0 5 (.mv (.c (.bool false)))]) (.seq (.region [3, 6] [o0 7 (.mv (.t 0)),
 o0 8 (.build [(.pointer none),(.slice none 0 0),(.slice none 0 0)] [(2, 1,(.t 7))]),
 o0 9 (.boxB 0 3 (.t 8)),
 o0 6 (.mv (.t 9))]) (.seq (.region [6] [o0 10 (.mv (.t 6)),
 o0 11 (.load (some 2) (.t 3)),
 o0 12 (.call .share 246 [(.t 10),(.t 11),(.c (.int .i64 0))])]) (.seq (.seq (.region [6, 14] [o0 13 (.mv (.t 6)),
 o0 14 (.call .peek 244 [.t 13])]) (.cond (.t 14) (.seq (.region [4, 5] [o0 4 (.mv (.c (.string .empty))),
 o0 5 (.mv (.c (.bool false)))]) .ret) .skip)) (.seq (.region [4, 5] [o0 15 (.mv (.t 6)),
 o0 16 (.nilCheck (.t 15)),
 o0 17 (.fieldA 0 (.t 16)),
 o0 18 (.call .share 670 [.t 17]),
 o0 4 (.mv (.t 18)),
 o0 5 (.mv (.c (.bool true)))]) .ret)))))⟩
def x444 : XFun :=
 ⟨[.tmp 0],(.seq (.region [] [o0 0 (.mv (.c (.bool false)))]) (.seq (.region [1] [o0 7 (.build [(.int .u8 0),(.string .empty),(.slice none 0 0),(.int .i64 0),(.int .i64 0)] [(0, 1,(.c (.int .u8 3))),(1, 1,(.c (.string ⟨#[104, 105]⟩)))]),
 o0 8 (.call .view 446 [(.c (.int .i64 1))]),
 o0 9 (.build [(.int .u8 0),(.int .i64 0)] [(0, 1,(.c (.int .u8 3))),(1, 1,(.c (.int .i64 1)))]),
 o0 10 (.buildSlice 2 [(.int .u8 0),(.int .i64 0)] 2 [(0, 2,(.t 8)),(2, 2,(.t 9))]),
 o0 11 (.build [(.int .u8 0),(.string .empty),(.slice none 0 0),(.int .i64 0),(.int .i64 0)] [(0, 1,(.c (.int .u8 4))),(2, 1,(.t 10)),(3, 1,(.c (.int .i64 4)))]),
 o0 12 (.build [(.int .u8 0),(.int .i64 0)] [(0, 1,(.c (.int .u8 3))),(1, 1,(.c (.int .i64 1)))]),
 o0 13 (.build [(.int .u8 0),(.int .i64 0)] [(0, 1,(.c (.int .u8 4))),(1, 1,(.c (.int .i64 2)))]),
 o0 14 (.buildSlice 2 [(.int .u8 0),(.int .i64 0)] 2 [(0, 2,(.t 12)),(2, 2,(.t 13))]),
 o0 15 (.build [(.int .u8 0),(.string .empty),(.slice none 0 0),(.int .i64 0),(.int .i64 0)] [(0, 1,(.c (.int .u8 5))),(2, 1,(.t 14)),(3, 1,(.c (.int .i64 8)))]),
 o0 16 (.build [(.int .u8 0),(.int .i64 0)] [(0, 1,(.c (.int .u8 4))),(1, 1,(.c (.int .i64 2)))]),
 o0 17 (.buildSlice 2 [(.int .u8 0),(.int .i64 0)] 1 [(0, 2,(.t 16))]),
 o0 18 (.build [(.int .u8 0),(.string .empty),(.slice none 0 0),(.int .i64 0),(.int .i64 0)] [(0, 1,(.c (.int .u8 7))),(2, 1,(.t 17))]),
 o0 19 (.build [(.int .u8 0),(.int .i64 0)] [(0, 1,(.c (.int .u8 7))),(1, 1,(.c (.int .i64 4)))]),
 o0 20 (.buildSlice 2 [(.int .u8 0),(.int .i64 0)] 1 [(0, 2,(.t 19))]),
 o0 21 (.build [(.int .u8 0),(.string .empty),(.slice none 0 0),(.int .i64 0),(.int .i64 0)] [(0, 1,(.c (.int .u8 6))),(4, 1,(.c (.int .i64 7))),(2, 1,(.t 20))]),
 o0 22 (.build [(.int .u8 0),(.int .i64 0)] [(0, 1,(.c (.int .u8 4))),(1, 1,(.c (.int .i64 6)))]),
 o0 23 (.buildSlice 2 [(.int .u8 0),(.int .i64 0)] 1 [(0, 2,(.t 22))]),
 o0 24 (.build [(.int .u8 0),(.string .empty),(.slice none 0 0),(.int .i64 0),(.int .i64 0)] [(0, 1,(.c (.int .u8 4))),(2, 1,(.t 23)),(3, 1,(.c (.int .i64 1)))]),
 o0 25 (.buildSlice 5 [(.int .u8 0),(.string .empty),(.slice none 0 0),(.int .i64 0),(.int .i64 0)] 6 [(0, 5,(.t 7)),(5, 5,(.t 11)),(10, 5,(.t 15)),(15, 5,(.t 18)),(20, 5,(.t 21)),(25, 5,(.t 24))]),
 o0 1 (.mv (.t 25))]) (.seq (.region [1, 2, 3] [o0 27 (.mv (.t 1)),
 o0 28 (.build [(.int .u8 0),(.int .i64 0)] [(0, 1,(.c (.int .u8 5))),(1, 1,(.c (.int .i64 3)))]),
 o0 29 (.call .view 648 [(.t 27),(.t 28)]),
 o0 26 (.mv (.t 29)),
 o0 30 (.extract (.t 26) 0),
 o0 31 (.extract (.t 26) 1),
 o0 2 (.mv (.t 30)),
 o0 3 (.mv (.t 31))]) (.seq (.region [1, 2, 3, 4, 5] [o0 33 (.mv (.t 1)),
 o0 34 (.build [(.int .u8 0),(.int .i64 0)] [(0, 1,(.c (.int .u8 4))),(1, 1,(.c (.int .i64 6)))]),
 o0 35 (.call .view 648 [(.t 33),(.t 34)]),
 o0 32 (.mv (.t 35)),
 o0 36 (.extract (.t 32) 0),
 o0 37 (.extract (.t 32) 1),
 o0 4 (.mv (.t 36)),
 o0 5 (.mv (.t 37))]) (.seq (.region [1, 2, 3, 4, 5, 6] [o0 38 (.build [(.int .u8 0),(.int .i64 0)] [(0, 1,(.c (.int .u8 6))),(1, 1,(.c (.int .i64 5)))]),
 o0 6 (.alloc [(.int .u8 0),(.int .i64 0)]),
 o2 (.store 2 (.t 6) (.t 38))]) (.seq (.region [0] [o0 39 (.mv (.t 3)),
 o0 40 (.mv (.t 39)),
 o1 41 40 true (.mv (.t 5)),
 o0 42 (.pick (.t 40) (.t 41) (.c (.bool false))),
 o0 43 (.mv (.t 42)),
 o1 44 43 true (.mv (.t 2)),
 o1 45 43 true (.bin .eql (.t 44) (.c (.string ⟨#[123, 104, 105, 58, 32, 91, 49, 44, 32, 104, 105, 93, 125]⟩))),
 o0 46 (.pick (.t 43) (.t 45) (.c (.bool false))),
 o0 47 (.mv (.t 46)),
 o1 48 47 true (.mv (.t 4)),
 o1 49 47 true (.bin .eql (.t 48) (.c (.string ⟨#[91, 91, 91, 91, 91, 91, 91, 91, 91, 46, 46, 93, 93, 93, 93, 93, 93, 93, 93, 93]⟩))),
 o0 50 (.pick (.t 47) (.t 49) (.c (.bool false))),
 o0 51 (.mv (.t 50)),
 o1 52 51 true (.mv (.t 1)),
 o1 53 51 true (.load (some 2) (.t 6)),
 o1 54 51 true (.call .share 646 [(.t 52),(.t 53)]),
 o0 55 (.pick (.t 51) (.t 54) (.c (.bool false))),
 o0 56 (.mv (.t 55)),
 o1 57 56 true (.mv (.t 1)),
 o1 58 56 true (.build [(.int .u8 0),(.int .i64 0)] [(0, 1,(.c (.int .u8 3))),(1, 1,(.c (.int .i64 9)))]),
 o1 59 56 true (.call .share 646 [(.t 57),(.t 58)]),
 o1 60 56 true (.un .not (.t 59)),
 o0 61 (.pick (.t 56) (.t 60) (.c (.bool false))),
 o0 62 (.mv (.t 61)),
 o1 63 62 true (.mv (.t 1)),
 o1 64 62 true (.load (some 2) (.t 6)),
 o1 65 62 true (.build [(.int .u8 0),(.int .i64 0)] [(0, 1,(.c (.int .u8 3))),(1, 1,(.c (.int .i64 1)))]),
 o1 66 62 true (.buildSlice 2 [(.int .u8 0),(.int .i64 0)] 2 [(0, 2,(.t 64)),(2, 2,(.t 65))]),
 o1 67 62 true (.call .share 649 [(.t 63),(.t 66)]),
 o1 68 62 true (.bin .eql (.t 67) (.c (.int .i64 22))),
 o0 69 (.pick (.t 62) (.t 68) (.c (.bool false))),
 o0 0 (.mv (.t 69))]) .ret))))))⟩
def x246 : XFun :=
 ⟨[],(.seq (.region [0, 2, 4] [o0 4 (.box 2 (.t 1))]) (.seq (.region [0, 2, 4, 6] [o0 7 (.mv (.t 0)),
 o0 8 (.nilCheck (.t 7)),
 o0 9 (.fieldA 2 (.t 8)),
 o0 10 (.load none (.t 9)),
 o0 11 (.load (some 2) (.t 4)),
 o0 12 (.call .view 651 [(.t 10),(.t 11)]),
 o0 6 (.mv (.t 12))]) (.seq (.region [0, 2, 4, 6, 14] [o0 13 (.fieldA 0 (.t 4)),
 o0 14 (.load none (.t 13))]) (.block 0 (.seq (.region [0, 2, 4, 6, 14, 64] [o0 65 (.bin .eql (.t 14) (.c (.int .u8 0))),
 o0 64 (.mv (.t 65))]) (.cond (.t 64) (.region [] [o0 66 (.mv (.t 0)),
 o0 67 (.nilCheck (.t 66)),
 o0 68 (.fieldA 0 (.t 67)),
 o0 69 (.call .share 673 [(.t 68),(.c (.string ⟨#[110, 105, 108]⟩))])]) (.seq (.region [0, 2, 4, 6, 14, 70] [o0 71 (.bin .eql (.t 14) (.c (.int .u8 1))),
 o0 70 (.mv (.t 71))]) (.cond (.t 70) (.lregion [] [o0 72 (.mv (.t 0)),
 o0 73 (.nilCheck (.t 72)),
 o0 74 (.fieldA 0 (.t 73)),
 o0 75 .litA,
 o2 (.litI 1 (.t 75) (.c (.bool true)) (.c (.string ⟨#[121, 101, 115]⟩))),
 o2 (.litI 1 (.t 75) (.c (.bool false)) (.c (.string ⟨#[110, 111]⟩))),
 o0 76 (.litM (.t 75)),
 o0 77 (.fieldA 1 (.t 4)),
 o0 78 (.load none (.t 77)),
 o0 79 (.bin .eql (.t 78) (.c (.int .i64 1))),
 o0 80 (.litL 1 [(.string .empty)] (.t 76) (.t 79) (.string ⟨#[121, 101, 115]⟩) (.string ⟨#[110, 111]⟩)),
 o0 81 (.call .share 673 [(.t 74),(.t 80)])]) (.seq (.region [0, 2, 4, 6, 82] [o0 83 (.bin .eql (.t 14) (.c (.int .u8 2))),
 o0 82 (.mv (.t 83))]) (.cond (.t 82) (.region [] [o0 84 (.mv (.t 0)),
 o0 85 (.nilCheck (.t 84)),
 o0 86 (.fieldA 0 (.t 85)),
 o0 87 (.fieldA 1 (.t 4)),
 o0 88 (.load none (.t 87)),
 o0 89 (.call .view 785 [(.t 88),(.c (.int .i64 10))]),
 o0 90 (.call .share 673 [(.t 86),(.t 89)])]) (.block 1 (.seq (.region [0, 2, 4, 6, 19] [o0 20 (.mv (.t 6)),
 o0 21 (.eqNil false 1 (.t 20)),
 o0 22 (.mv (.t 21)),
 o1 23 22 false (.fieldA 0 (.t 4)),
 o1 24 22 false (.load none (.t 23)),
 o1 25 22 false (.bin .eql (.t 24) (.c (.int .u8 7))),
 o0 26 (.pick (.t 22) (.c (.bool true)) (.t 25)),
 o0 19 (.mv (.t 26))]) (.cond (.t 19) (.region [] [o0 27 (.mv (.t 0)),
 o0 28 (.nilCheck (.t 27)),
 o0 29 (.fieldA 0 (.t 28)),
 o0 30 (.call .share 673 [(.t 29),(.c (.string ⟨#[63]⟩))])]) (.seq (.region [0, 2, 4, 6, 31] [o0 32 (.fieldA 0 (.t 4)),
 o0 33 (.load none (.t 32)),
 o0 34 (.bin .eql (.t 33) (.c (.int .u8 3))),
 o0 31 (.mv (.t 34))]) (.cond (.t 31) (.region [] [o0 35 (.mv (.t 0)),
 o0 36 (.nilCheck (.t 35)),
 o0 37 (.fieldA 0 (.t 36)),
 o0 38 (.mv (.t 6)),
 o0 39 (.nilCheck (.t 38)),
 o0 40 (.fieldA 1 (.t 39)),
 o0 41 (.load none (.t 40)),
 o0 42 (.call .share 673 [(.t 37),(.t 41)])]) (.seq (.region [0, 2, 6, 43] [o0 44 (.fieldA 0 (.t 4)),
 o0 45 (.load none (.t 44)),
 o0 46 (.bin .eql (.t 45) (.c (.int .u8 6))),
 o0 43 (.mv (.t 46))]) (.cond (.t 43) (.region [] [o0 47 (.mv (.t 0)),
 o0 48 (.nilCheck (.t 47)),
 o0 49 (.fieldA 0 (.t 48)),
 o0 50 (.mv (.t 6)),
 o0 51 (.nilCheck (.t 50)),
 o0 52 (.fieldA 4 (.t 51)),
 o0 53 (.load none (.t 52)),
 o0 54 (.call .view 786 [.t 53]),
 o0 55 (.bin .add (.c (.string ⟨#[102, 110, 32]⟩)) (.t 54)),
 o0 56 (.call .share 673 [(.t 49),(.t 55)])]) (.seq (.region [0, 2, 6, 57] [o0 58 (.mv (.t 2)),
 o0 59 (.bin .gtr (.t 58) (.c (.int .i64 8))),
 o0 57 (.mv (.t 59))]) (.cond (.t 57) (.region [] [o0 60 (.mv (.t 0)),
 o0 61 (.nilCheck (.t 60)),
 o0 62 (.fieldA 0 (.t 61)),
 o0 63 (.call .share 673 [(.t 62),(.c (.string ⟨#[46, 46]⟩))])]) (.region [] [o0 15 (.mv (.t 0)),
 o0 16 (.mv (.t 6)),
 o0 17 (.mv (.t 2)),
 o0 18 (.call .share 245 [(.t 15),(.t 16),(.t 17)])]))))))))))))))))))))⟩
def x244 : XFun :=
 ⟨[.tmp 2],(.seq (.region [0] [o0 2 (.mv (.c (.bool false)))]) (.seq (.region [2] [o0 3 (.mv (.t 0)),
 o0 4 (.nilCheck (.t 3)),
 o0 5 (.fieldA 0 (.t 4)),
 o0 6 (.call .peek 669 [.t 5]),
 o0 7 (.bin .gtr (.t 6) (.c (.int .i64 4096))),
 o0 2 (.mv (.t 7))]) .ret))⟩
def x446 : XFun :=
 ⟨[.cell 2 (some 2)],(.seq (.region [0, 2] [o0 2 (.alloc [(.int .u8 0),(.int .i64 0)])]) (.seq (.region [2] [o0 3 (.mv (.t 0)),
 o0 4 (.build [(.int .u8 0),(.int .i64 0)] [(0, 1,(.c (.int .u8 2))),(1, 1,(.t 3))]),
 o2 (.store 2 (.t 2) (.t 4))]) .ret))⟩
def x673 : XFun :=
 ⟨[.tmp 4,.tmp 5],(.seq (.region [0, 1] [o0 4 (.mv (.c (.int .i64 0))),
 o0 5 (.mv (.c .nilIface))]) (.seq (.region [0, 1] [o0 6 (.mv (.t 0)),
 o0 7 (.call .share 674 [.t 6])]) (.seq (.region [1] [o0 8 (.mv (.t 0)),
 o0 9 (.mv (.t 0)),
 o0 10 (.nilCheck (.t 9)),
 o0 11 (.fieldA 1 (.t 10)),
 o0 12 (.load none (.t 11)),
 o0 13 (.mv (.t 1)),
 o0 14 (.appendS (.t 12) (.t 13)),
 o0 15 (.nilCheck (.t 8)),
 o0 16 (.fieldA 1 (.t 15)),
 o2 (.store 1 (.t 16) (.t 14))]) (.seq (.region [4, 5] [o0 17 (.mv (.t 1)),
 o0 18 (.lenS (.t 17)),
 o0 4 (.mv (.t 18)),
 o0 5 (.mv (.c .nilIface))]) .ret))))⟩
def x785 : XFun :=
 ⟨[.tmp 4],(.seq (.region [0, 1] [o0 4 (.mv (.c (.string .empty)))]) (.seq (.region [4] [o0 5 (.mv (.t 0)),
 o0 6 (.mv (.t 1)),
 o0 7 (.call .view 708 [(.t 5),(.t 6)]),
 o0 4 (.mv (.t 7))]) .ret))⟩
def x786 : XFun :=
 ⟨[.tmp 2],(.seq (.region [0] [o0 2 (.mv (.c (.string .empty)))]) (.seq (.region [2] [o0 3 (.mv (.t 0)),
 o0 4 (.call .view 709 [.t 3]),
 o0 2 (.mv (.t 4))]) .ret))⟩
def x245L1 : XCode :=
 (.seq (.region [0, 1, 2, 7, 23, 24, 25, 26] [o0 26 (.bin .lss (.t 25) (.t 24))]) (.seq (.cond (.t 26) .skip (.exit 0)) (.seq (.block 1 (.seq (.region [0, 1, 2, 7, 8, 9, 23, 24, 25] [o0 27 (.mv (.t 25)),
 o0 28 (.idxA 2 (.t 23) (.t 25)),
 o0 29 (.load (some 2) (.t 28)),
 o0 9 (.alloc [(.int .u8 0),(.int .i64 0)]),
 o0 8 (.mv (.t 27)),
 o2 (.store 2 (.t 9) (.t 29))]) (.seq (.block 2 (.seq (.region [0, 1, 2, 7, 8, 9, 23, 24, 25, 30] [o0 31 (.mv (.t 0)),
 o0 32 (.call .peek 244 [.t 31]),
 o0 30 (.mv (.t 32))]) (.cond (.t 30) .ret (.seq (.region [0, 1, 2, 7, 8, 9, 23, 24, 25, 33] [o0 34 (.mv (.t 1)),
 o0 35 (.nilCheck (.t 34)),
 o0 36 (.fieldA 0 (.t 35)),
 o0 37 (.load none (.t 36)),
 o0 38 (.bin .eql (.t 37) (.c (.int .u8 5))),
 o0 39 (.mv (.t 38)),
 o1 40 39 true (.mv (.t 8)),
 o1 41 39 true (.bin .rem (.t 40) (.c (.int .i64 2))),
 o1 42 39 true (.bin .eql (.t 41) (.c (.int .i64 1))),
 o0 43 (.pick (.t 39) (.t 42) (.c (.bool false))),
 o0 33 (.mv (.t 43))]) (.cond (.t 33) (.region [0, 1, 2, 7, 9, 23, 24, 25] [o0 44 (.mv (.t 0)),
 o0 45 (.nilCheck (.t 44)),
 o0 46 (.fieldA 0 (.t 45)),
 o0 47 (.call .share 673 [(.t 46),(.c (.string ⟨#[58, 32]⟩))])]) (.seq (.region [0, 1, 2, 7, 9, 23, 24, 25, 48] [o0 49 (.mv (.t 8)),
 o0 50 (.bin .gtr (.t 49) (.c (.int .i64 0))),
 o0 48 (.mv (.t 50))]) (.cond (.t 48) (.region [0, 1, 2, 7, 9, 23, 24, 25] [o0 51 (.mv (.t 0)),
 o0 52 (.nilCheck (.t 51)),
 o0 53 (.fieldA 0 (.t 52)),
 o0 54 (.call .share 673 [(.t 53),(.c (.string ⟨#[44, 32]⟩))])]) .skip))))))) (.region [0, 1, 2, 7, 23, 24, 25] [o0 55 (.mv (.t 0)),
 o0 56 (.load (some 2) (.t 9)),
 o0 57 (.mv (.t 2)),
 o0 58 (.bin .add (.t 57) (.c (.int .i64 1))),
 o0 59 (.call .share 246 [(.t 55),(.t 56),(.t 58)])])))) (.region [0, 1, 2, 7, 23, 24, 25] [o0 60 (.bin .add (.t 25) (.c (.int .i64 1))),
 o0 25 (.mv (.t 60))]))))
def x245 : XFun :=
 ⟨[],(.seq (.region [0, 1, 2, 6, 7] [o0 6 (.mv (.c (.string ⟨#[91]⟩))),
 o0 7 (.mv (.c (.string ⟨#[93]⟩)))]) (.seq (.seq (.region [0, 1, 2, 6, 7, 14] [o0 10 (.mv (.t 1)),
 o0 11 (.nilCheck (.t 10)),
 o0 12 (.fieldA 0 (.t 11)),
 o0 13 (.load none (.t 12)),
 o0 14 (.bin .eql (.t 13) (.c (.int .u8 5)))]) (.cond (.t 14) (.region [0, 1, 2, 6, 7] [o0 6 (.mv (.c (.string ⟨#[123]⟩))),
 o0 7 (.mv (.c (.string ⟨#[125]⟩)))]) .skip)) (.seq (.region [0, 1, 2, 7] [o0 15 (.mv (.t 0)),
 o0 16 (.nilCheck (.t 15)),
 o0 17 (.fieldA 0 (.t 16)),
 o0 18 (.mv (.t 6)),
 o0 19 (.call .share 673 [(.t 17),(.t 18)])]) (.seq (.seq (.region [0, 1, 2, 7, 23, 24, 25] [o0 20 (.mv (.t 1)),
 o0 21 (.nilCheck (.t 20)),
 o0 22 (.fieldA 2 (.t 21)),
 o0 23 (.load none (.t 22)),
 o0 24 (.len (.t 23)),
 o0 25 (.mv (.c (.int .i64 0)))]) (.block 0 (.loop [0, 1, 2, 7, 23, 24, 25] x245L1))) (.seq (.seq (.region [0, 7, 74] [o0 61 (.mv (.t 1)),
 o0 62 (.nilCheck (.t 61)),
 o0 63 (.fieldA 0 (.t 62)),
 o0 64 (.load none (.t 63)),
 o0 65 (.bin .eql (.t 64) (.c (.int .u8 5))),
 o0 66 (.mv (.t 65)),
 o1 67 66 true (.mv (.t 1)),
 o1 68 66 true (.nilCheck (.t 67)),
 o1 69 66 true (.fieldA 2 (.t 68)),
 o1 70 66 true (.load none (.t 69)),
 o1 71 66 true (.len (.t 70)),
 o1 72 66 true (.bin .rem (.t 71) (.c (.int .i64 2))),
 o1 73 66 true (.bin .eql (.t 72) (.c (.int .i64 1))),
 o0 74 (.pick (.t 66) (.t 73) (.c (.bool false)))]) (.cond (.t 74) (.region [0, 7] [o0 75 (.mv (.t 0)),
 o0 76 (.nilCheck (.t 75)),
 o0 77 (.fieldA 0 (.t 76)),
 o0 78 (.call .share 673 [(.t 77),(.c (.string ⟨#[58, 32, 110, 105, 108]⟩))])]) .skip)) (.region [] [o0 79 (.mv (.t 0)),
 o0 80 (.nilCheck (.t 79)),
 o0 81 (.fieldA 0 (.t 80)),
 o0 82 (.mv (.t 7)),
 o0 83 (.call .share 673 [(.t 81),(.t 82)])]))))))⟩
def x669 : XFun :=
 ⟨[.tmp 2],(.seq (.region [0] [o0 2 (.mv (.c (.int .i64 0)))]) (.seq (.region [2] [o0 3 (.mv (.t 0)),
 o0 4 (.nilCheck (.t 3)),
 o0 5 (.fieldA 1 (.t 4)),
 o0 6 (.load none (.t 5)),
 o0 7 (.len (.t 6)),
 o0 2 (.mv (.t 7))]) .ret))⟩
def x709 : XFun :=
 ⟨[.tmp 2],(.seq (.region [0] [o0 2 (.mv (.c (.string .empty)))]) (.seq (.region [2] [o0 3 (.mv (.t 0)),
 o0 4 (.call .view 708 [(.t 3),(.c (.int .i64 10))]),
 o0 2 (.mv (.t 4))]) .ret))⟩
end Go.EX


set_option linter.unusedVariables false
set_option linter.unusedSimpArgs false
namespace Go.EX
attribute [simp] List.range_succ funOut zcc zca zb9 XO.unlit XOp.unlit zcb zb6 zb7 zcd zb5 blockOut andThen exOps exOne exOp Env.ev Env.get Env.keep enter AV.cells fresh loadAt getCells getCellsI valBin boolBin intBin shiftBin strBin valUn intOf bndOf bounds
 storeAt imms leave resOf wrapRes order reach Mem.refs AObj.refs AV.refs AV.refs.refsL Mem.pickAll AObj.ren AV.ren AV.ren.renL place fillAll mkObj imZ sameCells St.tidy Env.roots Env.ren AV.plain1 AV.plain2 AV.plain AV.own1 AV.own2 AV.own IV.plain AObj.own AObj.live AV.isImm exView exOwn exShare shareOk AObj.isFix exPeek exLook frz frz.frz1 frzV AObj.moved AObj.orMoved shareAt St.scrub isKeyAV zeroAV
@[simp] theorem lenOf_nil : lenOf (.imm (.val (.slice none 0 0))) = some 0 := rfl
@[simp] theorem lenOf_slice (row : List IV) (off len : Nat) (cap : Option Nat) : lenOf (.imm (.slice row off len cap)) = some len := rfl
@[simp] theorem lenOf_osl (id off sz len : Nat) (cap : Option Nat) : lenOf (.osl id off sz len cap) = some len := rfl
@[simp] theorem capOf_slice (row : List IV) (off len : Nat) (cap : Option Nat) : capOf (.imm (.slice row off len cap)) = cap := rfl
@[simp] theorem capOf_osl (id off sz len : Nat) (cap : Option Nat) : capOf (.osl id off sz len cap) = cap := rfl
@[simp] theorem isNil_slice (row : List IV) (off len : Nat) (cap : Option Nat) : isNil (.imm (.slice row off len cap)) = some false := rfl
@[simp] theorem isNil_ptr (row : List IV) (off : Nat) : isNil (.imm (.ptr row off)) = some false := rfl
@[simp] theorem isNil_osl (id off sz len : Nat) (cap : Option Nat) : isNil (.osl id off sz len cap) = some false := rfl
@[simp] theorem isNil_optr (id off : Nat) : isNil (.optr id off) = some false := rfl
@[simp] theorem isNil_omap (id : Nat) : isNil (.omap id) = some false := rfl
@[simp] theorem isNil_pnone : isNil (.imm (.val (.pointer none))) = some true := rfl
@[simp] theorem isNilK_snone : isNilK 0 (.imm (.val (.slice none 0 0))) = some true := rfl
@[simp] theorem isNilK_slice (row : List IV) (off len : Nat) (cap : Option Nat) : isNilK 0 (.imm (.slice row off len cap)) = some false := rfl
@[simp] theorem isNilK_osl (id off sz len : Nat) (cap : Option Nat) : isNilK 0 (.osl id off sz len cap) = some false := rfl
@[simp] theorem isNilK_pnone : isNilK 1 (.imm (.val (.pointer none))) = some true := rfl
@[simp] theorem isNilK_ptr (row : List IV) (off : Nat) : isNilK 1 (.imm (.ptr row off)) = some false := rfl
@[simp] theorem isNilK_optr (id off : Nat) : isNilK 1 (.optr id off) = some false := rfl
@[simp] theorem int_beq (a b : Int) : (a == b) = decide (a = b) := by by_cases h : a = b <;> simp [h]
theorem za3 {a b : ByteArray} (h : a.toList = b.toList) : a = b := by
 have e : ∀ c : ByteArray, c.toList = c.data.toList := ByteArray.toList_eq
 rw [e, e] at h
 cases a; cases b
 simp at h
 exact congrArg ByteArray.mk h
@[simp] theorem bytes_beq (a b : ByteArray) : (a.toList == b.toList) = decide (a = b) := by
 by_cases h : a = b
 ·subst h; simp
 ·have : a.toList ≠ b.toList := fun e => h (za3 e)
  simp [h, this]
@[simp] theorem cut_zero {β : Type} (l : List β) : cut l 0 0 = some [] := by simp [cut]
@[simp] theorem cut_cons_zero {β : Type} (x : β) (l : List β) (n : Nat) : cut (x :: l) 0 (n + 1) = (cut l 0 n).map (x :: ·) := by
 simp only [cut, List.drop_zero, List.take_succ_cons, List.length_cons]
 by_cases h : (l.take n).length = n
 ·rw [if_pos h, if_pos (by omega)]; rfl
 ·rw [if_neg h, if_neg (by omega)]; rfl
@[simp] theorem cut_cons_succ {β : Type} (x : β) (l : List β) (o n : Nat) : cut (x :: l) (o + 1) n = cut l o n := by simp [cut]
@[simp] theorem setAll_nil {β : Type} (l : List β) (o : Nat) : setAll l o [] = l := rfl
@[simp] theorem setAll_cons_succ {β : Type} (x : β) : ∀ (ys l : List β) (o : Nat), setAll (x :: l) (o + 1) ys = x :: setAll l o ys
 | [], l, o => rfl
 | y :: ys, l, o => by rw [setAll, List.set_cons_succ, setAll_cons_succ x ys]; rfl
@[simp] theorem setAll_cons_zero {β : Type} (x y : β) (l ys : List β) : setAll (x :: l) 0 (y :: ys) = y :: setAll l 0 ys := by
 rw [setAll, List.set_cons_zero, setAll_cons_succ]
@[simp] theorem imms_imm : ∀ (l : List IV), imms (l.map .imm) = some l
 | [] => rfl
 | x :: l => by simp [imms, imms_imm l]
@[simp] theorem copies_0 {β : Type} (l : List β) : copies 0 l = [] := rfl
@[simp] theorem copies_1 {β : Type} (l : List β) : copies 1 l = l := by simp [copies]
@[simp] theorem copies_2 {β : Type} (l : List β) : copies 2 l = l ++ l := by simp [copies]
@[simp] theorem copies_3 {β : Type} (l : List β) : copies 3 l = l ++ (l ++ l) := by simp [copies]
@[simp] theorem copies_4 {β : Type} (l : List β) : copies 4 l = l ++ (l ++ (l ++ l)) := by simp [copies]
def Ty.row {α : Type} (t : Ty α) (xs : List α) : List IV := xs.flatMap t.enc
abbrev nilS : AV := .imm (.val (.slice none 0 0))
abbrev int64 (n : Int) : AV := .imm (.val (.int .i64 n))
abbrev avb (b : Bool) : AV := .imm (.val (.bool b))
theorem zgg {code : Nat → Option XFun} {ext : Calls'} {keep : List Nat} {b : XCode} (I : Nat → St → Prop) (Q : XExit → St → Prop)
  (h : ∀ n s, I n s → ∃ e s', den code ext b (s.tidy keep) = some (e, s') ∧ ((e = .normal ∧ ∃ m, m < n ∧ I m s') ∨ (e ≠ .normal ∧ Q e s'))) : ∀ n s, I n s → ∃ e s', den code ext (.loop keep b) s = some (e, s') ∧ e ≠ .normal ∧ Q e s' := by
 intro n
 induction n using Nat.strongRecOn with
 | ind n ih =>
  intro s hs
  obtain ⟨e, s', h1, h2⟩ := h n s hs
  rw [zb8, h1]
  rcases h2 with ⟨rfl, m, hm, hI⟩ | ⟨hne, hq⟩
  ·exact ih m hm s' hI
  ·refine ⟨e, s', ?_, hne, hq⟩
   cases e with
   | normal => exact absurd rfl hne
   | exit id => rfl
   | ret => rfl
theorem wrapI64 {x : Int} (h1 : -9223372036854775808 ≤ x) (h2 : x ≤ 9223372036854775807) : IntKind.wrap .i64 x = x := by
 simp only [IntKind.wrap, IntKind.signed, IntKind.bits]
 simp
 omega
section
variable {α : Type} {t : Ty α} {iv : IV} {xs : List α}
theorem zi3 (h : Reads t iv xs) : lenOf (.imm iv) = some xs.length := by
 obtain ⟨_, _, ⟨rfl, rfl⟩ | ⟨row, off, cap, rfl, _⟩⟩ := h
 ·rfl
 ·rfl
theorem zb3 {β : Type} {l : List β} {o n : Nat} {r : List β} (h : cut l o n = some r) : r = (l.drop o).take n ∧ r.length = n := by
 unfold cut at h
 dsimp only at h
 split at h
 ·rename_i h1; cases h; exact ⟨rfl, h1⟩
 ·cases h
theorem cut_mk {β : Type} {l : List β} {o n : Nat} {r : List β} (h : (l.drop o).take n = r) (hl : r.length = n) : cut l o n = some r := by
 unfold cut
 dsimp only
 rw [h, if_pos hl]
theorem zbx {β : Type} {l : List β} {o n : Nat} {r : List β} (h : cut l o n = some r) {a b : Nat} (hab : a + b ≤ n) : cut l (o + a) b = cut r a b := by
 obtain ⟨rfl, hl⟩ := zb3 h
 unfold cut
 dsimp only
 rw [List.drop_take, List.drop_drop, List.take_take]
 have : min b (n - a) = b := by omega
 rw [this]
theorem zd9 (h0 : ∀ x, (t.enc x).length = t.sz) : ∀ (xs : List α) (i k : Nat), i + k ≤ xs.length → cut (xs.flatMap t.enc) (i * t.sz) (k * t.sz) = some (((xs.drop i).take k).flatMap t.enc) := by
 intro xs i k hk
 refine cut_mk ?_ ?_
 ·have hdrop : ∀ (i : Nat) (l : List α), (l.flatMap t.enc).drop (i * t.sz) = (l.drop i).flatMap t.enc := by
   intro i
   induction i with
   | zero => intro l; simp
   | succ i ih =>
    intro l
    cases l with
    | nil => simp
    | cons x l =>
     rw [List.flatMap_cons, Nat.add_mul, Nat.one_mul, Nat.add_comm, List.drop_append]
     have hx := h0 x
     rw [List.drop_eq_nil_of_le (by omega)]
     have : t.sz + i * t.sz - (t.enc x).length = i * t.sz := by omega
     rw [this, ih]; simp
  have htake : ∀ (k : Nat) (l : List α), (l.flatMap t.enc).take (k * t.sz) = (l.take k).flatMap t.enc := by
   intro k
   induction k with
   | zero => intro l; simp
   | succ i ih =>
    intro l
    cases l with
    | nil => simp
    | cons x l =>
     rw [List.flatMap_cons, Nat.add_mul, Nat.one_mul, Nat.add_comm, List.take_append]
     have hx := h0 x
     rw [List.take_of_length_le (by omega)]
     have : t.sz + i * t.sz - (t.enc x).length = i * t.sz := by omega
     rw [this, ih]; simp
  rw [hdrop, htake]
 ·rw [zeb _ _ h0]
  simp only [List.length_take, List.length_drop]
  congr 1
  omega
theorem zj2 (t : Ty α) (xs : List α) : (t.row xs).length = xs.length * t.sz := zeb _ _ t.len xs
theorem zb2 (t : Ty α) (xs : List α) : cut (t.row xs) 0 (xs.length * t.sz) = some (t.row xs) := zbw _ (zj2 t xs)
theorem zj1 (t : Ty α) (xs ys : List α) : t.row (xs ++ ys) = t.row xs ++ t.row ys := by simp [Ty.row]
theorem zi5 (h : Reads t iv xs) {i : Nat} {x : α} (hx : xs[i]? = some x) : ∃ row off cap, iv = .slice row off xs.length cap ∧ (∀ c, cap = some c → xs.length ≤ c) ∧ cut row off (xs.length * t.sz) = some (xs.flatMap t.enc) ∧
  cut row (off + i * t.sz) t.sz = some (t.enc x) := by
 obtain ⟨_, _, ⟨rfl, rfl⟩ | ⟨row, off, cap, rfl, hc, hcut⟩⟩ := h
 ·simp at hx
 ·refine ⟨row, off, cap, rfl, hc, hcut, ?_⟩
  have hi := (List.getElem?_eq_some_iff.1 hx)
  obtain ⟨hi, hxi⟩ := hi
  have : i * t.sz + t.sz ≤ xs.length * t.sz := by
   rw [← Nat.succ_mul]; exact Nat.mul_le_mul_right _ hi
  rw [zbx hcut this]
  have := zd9 t.len xs i 1 hi
  rw [Nat.one_mul] at this
  rw [this]
  congr 1
  rw [List.drop_eq_getElem_cons hi, hxi]
  simp
theorem zi6 (t : Ty α) (xs : List α) {cap : Option Nat} (hw : ∀ x ∈ xs, t.wf x) (hl : xs.length ≤ 140737488355328) (hc : ∀ c, cap = some c → xs.length ≤ c) : Reads t (.slice (t.row xs) 0 xs.length cap) xs :=
 ⟨hw, hl, .inr ⟨_, 0, cap, rfl, hc, zbw _ (zj2 t xs)⟩⟩
theorem zcm (m : Mem) (h : Reads t iv xs) : elems m t.sz (.imm iv) = some (xs.length, t.row xs) := by
 obtain ⟨hw, hm, ⟨rfl, rfl⟩ | ⟨row, off, cap, rfl, hc, hcut⟩⟩ := h
 ·rfl
 ·simp only [elems, hcut, Option.map_some, Ty.row]
end
end Go.EX


set_option linter.unusedVariables false
set_option linter.unusedSimpArgs false
namespace Go.EX
structure Val where
 k : Int
 n : Int
 deriving DecidableEq
def tVal : Ty Val := ⟨2, true, fun v => [.val (.int .u8 v.k), .val (.int .i64 v.n)], fun v => (tInt .u8).wf v.k ∧ (tInt .i64).wf v.n, fun _ => rfl⟩
structure Obj where
 k : Int
 s : ByteArray
 l : Sl tVal
 room : Int
 fn : Int
def tObj : Ty Obj := ⟨5, true, fun o => [.val (.int .u8 o.k), .val (.string o.s), o.l.iv, .val (.int .i64 o.room), .val (.int .i64 o.fn)],
 fun o => (tInt .u8).wf o.k ∧ tStr.wf o.s ∧ (tInt .i64).wf o.room ∧ (tInt .i64).wf o.fn, fun _ => rfl⟩
end Go.EX


set_option linter.unusedVariables false
set_option linter.unusedSimpArgs false
namespace Go.EX
def leadsOf (S : List Obj) (v : Val) : Option Nat :=
 if v.k < 3 then none else if 7 < v.k then none else if v.n < 1 then none else if (S.length : Int) < v.n then none else
 match S[(v.n - 1).toNat]? with
 | some o => if o.k = v.k then some (v.n - 1).toNat else none
 | none => none
theorem zf3 {S : List Obj} {v : Val} {k : Nat} (h : leadsOf S v = some k) : k < S.length ∧ (k : Int) = v.n - 1 ∧ 3 ≤ v.k ∧ v.k ≤ 7 ∧ ∃ o, S[k]? = some o ∧ o.k = v.k := by
 unfold leadsOf at h
 split at h
 ·cases h
 split at h
 ·cases h
 split at h
 ·cases h
 split at h
 ·cases h
 split at h
 ·rename_i o ho
  split at h
  ·rename_i hk
   cases h
   have := (List.getElem?_eq_some_iff.1 ho).1
   exact ⟨this, by omega, by omega, by omega, o, ho, hk⟩
  ·cases h
 ·cases h
inductive Reach (S : List Obj) (roots : List Val) : Nat → Prop
 | root {v : Val} {j : Nat} (hv : v ∈ roots) (h : leadsOf S v = some j) : Reach S roots j
 | step {k j : Nat} {o : Obj} {v : Val} (hk : Reach S roots k) (ho : S[k]? = some o) (hv : v ∈ o.l.xs) (h : leadsOf S v = some j) : Reach S roots j
theorem Reach.lt {S : List Obj} {roots : List Val} {k : Nat} (h : Reach S roots k) : k < S.length := by
 cases h with
 | root _ h => exact (zf3 h).1
 | step _ _ _ h => exact (zf3 h).1
structure Marks (S : List Obj) (roots : List Val) (F : List Bool) (T : List Val) : Prop where
 len : F.length = S.length
 mark : ∀ k, F[k]? = some true → Reach S roots k
 todo : ∀ v ∈ T, ∀ j, leadsOf S v = some j → Reach S roots j
 roots : ∀ v ∈ roots, ∀ j, leadsOf S v = some j → F[j]? = some true ∨ v ∈ T
 step : ∀ (k : Nat) (o : Obj), F[k]? = some true → S[k]? = some o → ∀ v ∈ o.l.xs, ∀ j : Nat, leadsOf S v = some j → F[j]? = some true ∨ v ∈ T
theorem Marks.start (S : List Obj) (roots : List Val) : Marks S roots (List.replicate S.length false) roots :=
 ⟨by simp, fun k h => by simp [List.getElem?_replicate] at h, fun v hv j h => .root hv h, fun v hv j h => .inr hv, fun k o h => by simp [List.getElem?_replicate] at h⟩
theorem Marks.drop {S : List Obj} {roots : List Val} {F : List Bool} {T : List Val} {v : Val} (h : Marks S roots F (T ++ [v])) (hv : ∀ j, leadsOf S v = some j → F[j]? = some true) : Marks S roots F T := by
 have key : ∀ u j, leadsOf S u = some j → (F[j]? = some true ∨ u ∈ T ++ [v]) → F[j]? = some true ∨ u ∈ T := by
  intro u j hu h1
  rcases h1 with h1 | h1
  ·exact .inl h1
  ·rw [List.mem_append, List.mem_singleton] at h1
   rcases h1 with h1 | rfl
   ·exact .inr h1
   ·exact .inl (hv j hu)
 exact ⟨h.len, h.mark, fun u hu j hj => h.todo u (List.mem_append_left _ hu) j hj, fun u hu j hj => key u j hj (h.roots u hu j hj), fun k o hk ho u hu j hj => key u j hj (h.step k o hk ho u hu j hj)⟩
theorem Marks.take {S : List Obj} {roots : List Val} {F : List Bool} {T : List Val} {v : Val} {k : Nat} {o : Obj} (h : Marks S roots F (T ++ [v])) (hv : leadsOf S v = some k) (hF : F[k]? = some false) (ho : S[k]? = some o) : Marks S roots (F.set k true) (T ++ o.l.xs) := by
 have hkl : k < F.length := (List.getElem?_eq_some_iff.1 hF).1
 have hk := h.todo v (by simp) k hv
 have hset : ∀ j, (F.set k true)[j]? = some true ↔ j = k ∨ F[j]? = some true := by
  intro j
  rw [List.getElem?_set]
  by_cases e : k = j
  ·subst e; simp [hkl]
  ·rw [if_neg e]; simp [Ne.symm e]
 have key : ∀ u j, leadsOf S u = some j → (F[j]? = some true ∨ u ∈ T ++ [v]) → (F.set k true)[j]? = some true ∨ u ∈ T ++ o.l.xs := by
  intro u j hu h1
  rcases h1 with h1 | h1
  ·exact .inl ((hset j).2 (.inr h1))
  ·rw [List.mem_append, List.mem_singleton] at h1
   rcases h1 with h1 | rfl
   ·exact .inr (List.mem_append_left _ h1)
   ·rw [hv] at hu; cases hu; exact .inl ((hset k).2 (.inl rfl))
 refine ⟨by simp [h.len], fun j hj => ?_, fun u hu j hj => ?_, fun u hu j hj => key u j hj (h.roots u hu j hj), fun q p hq hp u hu j hj => ?_⟩
 ·rcases (hset j).1 hj with rfl | hj
  ·exact hk
  ·exact h.mark j hj
 ·rw [List.mem_append] at hu
  rcases hu with hu | hu
  ·exact h.todo u (List.mem_append_left _ hu) j hj
  ·exact .step hk ho hu hj
 ·rcases (hset q).1 hq with rfl | hq
  ·rw [ho] at hp; cases hp
   exact .inr (List.mem_append_right _ hu)
  ·exact key u j hj (h.step q p hq hp u hu j hj)
theorem Marks.done {S : List Obj} {roots : List Val} {F : List Bool} (h : Marks S roots F []) (k : Nat) : F[k]? = some true ↔ Reach S roots k := by
 refine ⟨h.mark k, fun hk => ?_⟩
 induction hk with
 | root hv hl => rcases h.roots _ hv _ hl with h | h; exact h; cases h
 | step _ ho hv hl ih => rcases h.step _ _ ih ho _ hv _ hl with h | h; exact h; cases h
def addAll (S : List Obj) : List Nat → List Val → List Nat
 | out, [] => out
 | out, v :: l => match leadsOf S v with
  | some o => if o ∈ out then addAll S out l else addAll S (out ++ [o]) l
  | none => addAll S out l
theorem zad (S : List Obj) : ∀ (l : List Val) (out : List Nat), ∃ r, addAll S out l = out ++ r
 | [], out => ⟨[], by simp [addAll]⟩
 | v :: l, out => by
  rw [addAll]
  split
  ·rename_i o ho
   split
   ·exact zad S l out
   ·obtain ⟨r, hr⟩ := zad S l (out ++ [o])
    exact ⟨o :: r, by rw [hr]; simp⟩
  ·exact zad S l out
theorem zac (S : List Obj) : ∀ (l : List Val) (out : List Nat), out.Nodup → (addAll S out l).Nodup
 | [], out, h => h
 | v :: l, out, h => by
  rw [addAll]
  split
  ·rename_i o ho
   split
   ·exact zac S l out h
   ·rename_i hn
    refine zac S l _ ?_
    rw [List.nodup_append]
    exact ⟨h, by simp, fun a ha b hb => by simp at hb; subst hb; exact fun e => hn (e ▸ ha)⟩
  ·exact zac S l out h
theorem zab (S : List Obj) : ∀ (l : List Val) (out : List Nat) (j : Nat), j ∈ addAll S out l ↔ j ∈ out ∨ ∃ v ∈ l, leadsOf S v = some j
 | [], out, j => by simp [addAll]
 | v :: l, out, j => by
  rw [addAll]
  split
  ·rename_i o ho
   split
   ·rename_i hm
    rw [zab S l out j]
    constructor
    ·rintro (h | ⟨u, hu, h⟩)
     ·exact .inl h
     ·exact .inr ⟨u, List.mem_cons_of_mem _ hu, h⟩
    ·rintro (h | ⟨u, hu, h⟩)
     ·exact .inl h
     ·rcases List.mem_cons.1 hu with rfl | hu
      ·rw [ho] at h; cases h; exact .inl hm
      ·exact .inr ⟨u, hu, h⟩
   ·rw [zab S l _ j, List.mem_append, List.mem_singleton]
    constructor
    ·rintro ((h | rfl) | ⟨u, hu, h⟩)
     ·exact .inl h
     ·exact .inr ⟨v, List.mem_cons_self .., ho⟩
     ·exact .inr ⟨u, List.mem_cons_of_mem _ hu, h⟩
    ·rintro (h | ⟨u, hu, h⟩)
     ·exact .inl (.inl h)
     ·rcases List.mem_cons.1 hu with rfl | hu
      ·rw [ho] at h; cases h; exact .inl (.inr rfl)
      ·exact .inr ⟨u, hu, h⟩
  ·rename_i hn
   rw [zab S l out j]
   constructor
   ·rintro (h | ⟨u, hu, h⟩)
    ·exact .inl h
    ·exact .inr ⟨u, List.mem_cons_of_mem _ hu, h⟩
   ·rintro (h | ⟨u, hu, h⟩)
    ·exact .inl h
    ·rcases List.mem_cons.1 hu with rfl | hu
     ·rw [hn] at h; cases h
     ·exact .inr ⟨u, hu, h⟩
structure Grown (S : List Obj) (roots : List Val) (out : List Nat) (i : Nat) : Prop where
 nodup : out.Nodup
 reach : ∀ k ∈ out, Reach S roots k
 roots : ∀ v ∈ roots, ∀ j, leadsOf S v = some j → j ∈ out
 step : ∀ k ∈ out.take i, ∀ o : Obj, S[k]? = some o → ∀ v ∈ o.l.xs, ∀ j, leadsOf S v = some j → j ∈ out
theorem Grown.start (S : List Obj) (roots : List Val) : Grown S roots (addAll S [] roots) 0 :=
 ⟨zac S roots [] (by simp), fun k hk => by
  rcases (zab S roots [] k).1 hk with h | ⟨v, hv, h⟩
  ·cases h
  ·exact .root hv h, fun v hv j hj => (zab S roots [] j).2 (.inr ⟨v, hv, hj⟩), fun k hk => by simp at hk⟩
theorem Grown.next {S : List Obj} {roots : List Val} {out : List Nat} {i k : Nat} {o : Obj} (h : Grown S roots out i) (hk : out[i]? = some k) (ho : S[k]? = some o) : Grown S roots (addAll S out o.l.xs) (i + 1) := by
 have hi := (List.getElem?_eq_some_iff.1 hk).1
 refine ⟨zac S _ _ h.nodup, fun j hj => ?_, fun v hv j hj => (zab S _ _ j).2 (.inl (h.roots v hv j hj)), fun q hq p hp v hv j hj => ?_⟩
 ·rcases (zab S _ _ j).1 hj with hj | ⟨v, hv, hj⟩
  ·exact h.reach j hj
  ·exact .step (h.reach k (List.mem_of_getElem? hk)) ho hv hj
 ·obtain ⟨r, hr⟩ := zad S o.l.xs out
  rw [hr, List.take_append_of_le_length (by omega), List.take_add_one, hk, List.mem_append] at hq
  rcases hq with hq | hq
  ·exact (zab S _ _ j).2 (.inl (h.step q hq p hp v hv j hj))
  ·simp at hq; subst hq
   rw [ho] at hp; cases hp
   exact (zab S _ _ j).2 (.inr ⟨v, hv, hj⟩)
theorem Grown.done {S : List Obj} {roots : List Val} {out : List Nat} {i : Nat} (h : Grown S roots out i) (hi : out.length ≤ i) (k : Nat) : k ∈ out ↔ Reach S roots k := by
 refine ⟨h.reach k, fun hk => ?_⟩
 have hs := h.step
 rw [List.take_of_length_le hi] at hs
 induction hk with
 | root hv hl => exact h.roots _ hv _ hl
 | step _ ho hv hl ih => exact hs _ ih _ ho _ hv _ hl
theorem Grown.short {S : List Obj} {roots : List Val} {out : List Nat} {i : Nat} (h : Grown S roots out i) : out.length ≤ S.length := by
 have hp : out.Perm ((List.range S.length).filter fun k => decide (k ∈ out)) := (List.perm_ext_iff_of_nodup h.nodup (List.nodup_range.filter _)).2 fun k => by
  rw [List.mem_filter, List.mem_range]
  exact ⟨fun hk => ⟨(h.reach k hk).lt, by simpa using hk⟩, fun hk => by simpa using hk.2⟩
 rw [hp.length_eq]
 exact Nat.le_trans (List.length_filter_le _ _) (by simp)
def wordsOf (o : Obj) : Nat :=
 if o.k = 3 then 2 + (o.s.size + 7) / 8 else if o.k = 4 ∨ o.k = 5 then (if 0 < o.room then 4 + 2 * o.room.toNat else 3) else if o.k = 6 then 2 + 2 * o.l.xs.length else 3
def wordsAt (S : List Obj) (k : Nat) : Nat := match S[k]? with
 | some o => wordsOf o
 | none => 0
end Go.EX


set_option linter.unusedVariables false
set_option linter.unusedSimpArgs false
namespace Go.EX
def dig (n : Int) : ByteArray := ⟨(Go.Lib.itoa n).toArray⟩
section
variable {code : Nat → Option XFun} {ext : Calls'}
end
end Go.EX


set_option linter.unusedVariables false
set_option linter.unusedSimpArgs false
namespace Go.EX
structure StoreOK (S : List Obj) : Prop where
 wf : ∀ o ∈ S, tObj.wf o
 s : ∀ o ∈ S, o.s.size ≤ 1048576
 l : ∀ o ∈ S, o.l.xs.length ≤ 1000000
section
variable {code : Nat → Option XFun} {ext : Calls'}
end
end Go.EX


set_option linter.unusedVariables false
set_option linter.unusedSimpArgs false
namespace Go.EX
section
variable {code : Nat → Option XFun} {ext : Calls'}
def Ty.part {α : Type} (t : Ty α) (z : α) (xs : List α) (n : Nat) : List IV := t.row (xs ++ List.replicate n z)
section
variable {α : Type} (t : Ty α) (z sp : α) (bytes : Nat) (zs : List Value)
end
end
end Go.EX


set_option linter.unusedVariables false
set_option linter.unusedSimpArgs false
namespace Go.EX
section
variable {code : Nat → Option XFun} {ext : Calls'}
theorem zm9 (a b : Int) : IntKind.wrap .i64 (IntKind.wrap .i64 a + b) = IntKind.wrap .i64 (a + b) := by
 simp only [IntKind.wrap, IntKind.signed, IntKind.bits]
 simp
 omega
theorem zmp (h : code 380 = some x380) {iv : IV} {xs : List Val} (hr : Reads tVal iv xs) : callW code ext 380 [.imm iv] [] = some (int64 xs.length, []) := by
 rw [za7 code ext h]
 simp -implicitDefEqProofs [x380, zi3 hr]
def objSize (o : Obj) : Int := if (1 + o.s.size : Int) ≤ 1048576 then 1 + o.s.size + o.l.xs.length else 1 + o.s.size
theorem zg2 (h : code 380 = some x380) (h' : code 338 = some x338) (o : Obj) (hw : tObj.wf o) :
  callW code ext 338 [.agg [.imm (.val (.int .u8 o.k)), .imm (.val (.string o.s)), .imm o.l.iv, int64 o.room, int64 o.fn]] [] = some (int64 (objSize o), []) := by
 rw [za7 code ext h']
 have hs : o.s.size ≤ 140737488355328 := hw.2.1
 have hl := o.l.ok.2.1
 have e1 : IntKind.wrap .i64 (1 + (o.s.size : Int)) = 1 + o.s.size := wrapI64 (by omega) (by omega)
 have e2 : IntKind.wrap .i64 (1 + (o.s.size : Int) + o.l.xs.length) = 1 + o.s.size + o.l.xs.length := wrapI64 (by omega) (by omega)
 have hv := zmp (ext := ext) h o.l.ok
 by_cases hc : (1 + o.s.size : Int) ≤ 1048576
 ·simp -implicitDefEqProofs [x338, e1, e2, hc, hv, objSize]
 ·simp -implicitDefEqProofs [x338, e1, hc, objSize]
def sizeGo : Int → List Obj → Int
 | n, [] => n
 | n, o :: r => if n ≤ 1048576 then sizeGo (n + objSize o) r else n
theorem zg1 (o : Obj) (hw : tObj.wf o) : 1 ≤ objSize o ∧ objSize o ≤ 281474976710658 := by
 have hs : o.s.size ≤ 140737488355328 := hw.2.1
 have hl := o.l.ok.2.1
 unfold objSize
 split <;> omega
theorem zg9 (h : code 380 = some x380) (h' : code 338 = some x338) (h2 : code 339 = some x339) {iv : IV} {xs : List Obj} (hr : Reads tObj iv xs) : callW code ext 339 [.imm iv] [] = some (int64 (sizeGo xs.length xs), []) := by
 have hlen := zi3 hr
 have hb := hr.2.1
 have loop : ∃ e s', den code ext (.loop [0, 3, 4] x339L1) ⟨0, [(0, .imm iv), (3, int64 xs.length), (4, int64 0)], []⟩ = some (e, s') ∧ e ≠ .normal ∧
   (e = .exit 0 ∧ s'.k = 0 ∧ s'.mem = [] ∧ s'.env.get 3 = int64 (sizeGo xs.length xs)) := by
  refine zgg (fun n s => ∃ (i : Nat) (m : Int), i + n = xs.length ∧ 0 ≤ m ∧ m ≤ 1000000000000000 ∧ sizeGo xs.length xs = sizeGo m (xs.drop i) ∧ s = ⟨0, [(0, .imm iv), (3, int64 m), (4, int64 (i : Nat))], []⟩) _ ?_ xs.length _ ⟨0, xs.length, by simp, by omega, by omega, by simp, rfl⟩
  rintro n _ ⟨i, m, hi, hm0, hm1, hg, rfl⟩
  by_cases hlt : i < xs.length
  ·obtain ⟨row, off, cap, rfl, hc, hcut, hget⟩ := zi5 hr (List.getElem?_eq_getElem hlt)
   have e1 : IntKind.wrap .i64 ((i : Int) + 1) = (i : Int) + 1 := wrapI64 (by omega) (by omega)
   rw [List.drop_eq_getElem_cons hlt, sizeGo] at hg
   have hw := hr.1 _ (List.getElem_mem hlt)
   generalize xs[i] = o at hget hg hw
   have hbd := zg1 o hw
   have hs := zg2 (ext := ext) h h' o hw
   simp only [tObj] at hget
   by_cases hc2 : m ≤ 1048576
   ·rw [if_pos hc2] at hg
    have e2 : IntKind.wrap .i64 (m + objSize o) = m + objSize o := wrapI64 (by omega) (by omega)
    refine ⟨.normal, ⟨0, [(0, .imm (.slice row off xs.length cap)), (3, int64 (m + objSize o)), (4, int64 ((i : Int) + 1))], []⟩, ?_, .inl ⟨rfl, n - 1, by omega, i + 1, _, by omega, by omega, by omega, hg, rfl⟩⟩
    simp -implicitDefEqProofs [x339L1, hlt, hget, hc2, hs, e1, e2]
   ·rw [if_neg hc2] at hg
    refine ⟨.exit 0, ⟨0, [(0, .imm (.slice row off xs.length cap)), (3, int64 m), (4, int64 (i : Int)), (14, avb false)], []⟩, ?_, .inr ⟨by simp, rfl, rfl, rfl, by rw [hg]; simp⟩⟩
    simp -implicitDefEqProofs [x339L1, hlt, hc2]
  ·have : ¬ ((i : Int) < xs.length) := by omega
   refine ⟨.exit 0, ⟨0, [(0, .imm iv), (3, int64 m), (4, int64 (i : Int)), (14, avb false)], []⟩, ?_, .inr ⟨by simp, rfl, rfl, rfl, ?_⟩⟩
   ·simp -implicitDefEqProofs [x339L1, hlen, this]
   ·rw [hg, List.drop_eq_nil_of_le (by omega)]; simp [sizeGo]
 obtain ⟨e, s', h1, _, rfl, h3, h4, h5⟩ := loop
 rw [za7 code ext h2]
 simp -implicitDefEqProofs [x339, hlen, h1, h3, h4, h5]
theorem zls (h : code 380 = some x380) (h' : code 338 = some x338) (h2 : code 339 = some x339) (h3 : code 361 = some x361) {iv : IV} {xs : List Obj} (hr : Reads tObj iv xs) : callW code ext 361 [.imm iv] [] = some (int64 (sizeGo xs.length xs), []) := by
 rw [za7 code ext h3]
 simp -implicitDefEqProofs [x361, zg9 h h' h2 hr]
theorem zay (h : code 303 = some x303) (n : Int) (h0 : 0 ≤ n) (h1 : n ≤ 4611686018427387904) : callW code ext 303 [.imm (.slice [.val (.int .i64 n)] 0 1 (some 1))] [] = some (avb (decide (1048576 < n)), []) := by
 rw [za7 code ext h]
 have e1 : IntKind.wrap .i64 n = n := wrapI64 (by omega) (by omega)
 have e2 : IntKind.wrap .i64 1 = 1 := rfl
 by_cases hc : 1048576 < n
 ·simp -implicitDefEqProofs [x303, x303L1, zb8, e1, e2, hc]
 ·have hl : ∀ m : Int, den code ext (.loop [0, 3, 4] x303L1) ⟨0, [(0, .imm (.slice [.val (.int .i64 n)] 0 1 (some 1))), (3, int64 m), (4, int64 1)], []⟩ = some (.exit 0, ⟨0, [(0, .imm (.slice [.val (.int .i64 n)] 0 1 (some 1))), (3, int64 m), (4, int64 1), (8, avb false)], []⟩) := by
   intro m
   rw [zb8]
   simp -implicitDefEqProofs [x303L1]
  have hl2 : den code ext (.loop [0, 3, 4] x303L1) ⟨0, [(0, .imm (.slice [.val (.int .i64 n)] 0 1 (some 1))), (3, int64 0), (4, int64 0)], []⟩ = some (.exit 0, ⟨0, [(0, .imm (.slice [.val (.int .i64 n)] 0 1 (some 1))), (3, int64 n), (4, int64 1), (8, avb false)], []⟩) := by
   rw [zb8]
   have hb : den code ext x303L1 (St.tidy ⟨0, [(0, .imm (.slice [.val (.int .i64 n)] 0 1 (some 1))), (3, int64 0), (4, int64 0)], []⟩ [0, 3, 4]) = some (.normal, ⟨0, [(0, .imm (.slice [.val (.int .i64 n)] 0 1 (some 1))), (3, int64 n), (4, int64 1)], []⟩) := by
    simp -implicitDefEqProofs [x303L1, e1, e2, hc]
   rw [hb]
   simp only [andThen]
   exact hl n
  simp -implicitDefEqProofs [x303, hl2, hc]
end
end Go.EX


set_option linter.unusedVariables false
set_option linter.unusedSimpArgs false
namespace Go.EX
section
variable {code : Nat → Option XFun} {ext : Calls'}
def sumL : List Obj → Int
 | [] => 0
 | o :: r => o.l.xs.length + sumL r
theorem zly : ∀ (l : List Obj) (o : Obj), sumL (l ++ [o]) = sumL l + o.l.xs.length
 | [], o => by simp [sumL]
 | x :: l, o => by rw [List.cons_append, sumL, sumL, zly l o]; omega
theorem zlg : ∀ (l : List Obj) (m : Int), (∀ o ∈ l, tObj.wf o) → 0 ≤ m → m ≤ 1000000000000000 → m ≤ sizeGo m l ∧ sizeGo m l ≤ 1000000000000000
 | [], m, _, h0, h1 => ⟨Int.le_refl _, h1⟩
 | o :: r, m, hw, h0, h1 => by
  have hb := zg1 o (hw o (List.mem_cons_self ..))
  rw [sizeGo]
  split
  ·have := zlg r (m + objSize o) (fun x hx => hw x (List.mem_cons_of_mem _ hx)) (by omega) (by omega)
   omega
  ·omega
def greatOf (S : List Obj) : Bool := if ∃ o ∈ S, (5000 : Int) < o.l.xs.length then true else decide (20000 < IntKind.wrap .i64 (sumL S)) || decide (1048576 < sizeGo S.length S)
theorem ze1 (h0 : code 303 = some x303) (h : code 380 = some x380) (h' : code 338 = some x338) (h2 : code 339 = some x339) (h3 : code 361 = some x361) (h4 : code 445 = some x445) {iv : IV} {S : List Obj} (hr : Reads tObj iv S) :
  callW code ext 445 [.imm iv] [] = some (avb (greatOf S), []) := by
 have hlen := zi3 hr
 have hb := hr.2.1
 have loop : ∃ e s', den code ext (.loop [0, 3, 4] x445L1) ⟨0, [(0, .imm iv), (3, int64 0), (4, int64 0)], []⟩ = some (e, s') ∧ e ≠ .normal ∧
   ((e = .exit 0 ∧ (¬ ∃ o ∈ S, (5000 : Int) < o.l.xs.length) ∧ s' = ⟨0, [(0, .imm iv), (3, int64 (IntKind.wrap .i64 (sumL S))), (4, int64 S.length), (8, avb false)], []⟩) ∨ (e = .ret ∧ (∃ o ∈ S, (5000 : Int) < o.l.xs.length) ∧ s' = ⟨0, [(2, avb true)], []⟩)) := by
  refine zgg (fun n s => ∃ (i : Nat), i + n = S.length ∧ (∀ o ∈ S.take i, ¬ (5000 : Int) < o.l.xs.length) ∧ s = ⟨0, [(0, .imm iv), (3, int64 (IntKind.wrap .i64 (sumL (S.take i)))), (4, int64 (i : Nat))], []⟩) _ ?_ S.length _ ⟨0, by simp, by simp, by simp [sumL]; rfl⟩
  rintro n _ ⟨i, hi, hall, rfl⟩
  by_cases hlt : i < S.length
  ·obtain ⟨row, off, cap, rfl, hc, hcut, hget⟩ := zi5 hr (List.getElem?_eq_getElem hlt)
   have e1 : IntKind.wrap .i64 ((i : Int) + 1) = (i : Int) + 1 := wrapI64 (by omega) (by omega)
   have htk : S.take (i + 1) = S.take i ++ [S[i]] := by rw [List.take_add_one, List.getElem?_eq_getElem hlt]; rfl
   have hw := hr.1 _ (List.getElem_mem hlt)
   have hmem := List.getElem_mem hlt
   generalize S[i] = o at hget hw htk hmem
   simp only [tObj] at hget
   have g2 : row[off + i * 5 + 2]? = some o.l.iv := zby hget 2 (by omega)
   have hll := zi3 o.l.ok
   by_cases hc2 : (5000 : Int) < o.l.xs.length
   ·refine ⟨.ret, ⟨0, [(2, avb true)], []⟩, ?_, .inr ⟨by simp, .inr ⟨rfl, ⟨o, hmem, hc2⟩, rfl⟩⟩⟩
    simp -implicitDefEqProofs [x445L1, hlt, g2, hll, hc2]
   ·refine ⟨.normal, ⟨0, [(0, .imm (.slice row off S.length cap)), (3, int64 (IntKind.wrap .i64 (sumL (S.take (i + 1))))), (4, int64 ((i : Int) + 1))], []⟩, ?_, .inl ⟨rfl, n - 1, by omega, i + 1, by omega, fun q hq => ?_, rfl⟩⟩
    ·have e2 := zm9 (sumL (S.take i)) o.l.xs.length
     rw [htk, zly]
     simp -implicitDefEqProofs [x445L1, hlt, g2, hll, hc2, e1, e2]
    ·rw [htk, List.mem_append, List.mem_singleton] at hq
     rcases hq with hq | rfl
     ·exact hall q hq
     ·exact hc2
  ·have : i = S.length := by omega
   subst this
   rw [List.take_length] at hall ⊢
   refine ⟨.exit 0, ⟨0, [(0, .imm iv), (3, int64 (IntKind.wrap .i64 (sumL S))), (4, int64 S.length), (8, avb false)], []⟩, ?_, .inr ⟨by simp, .inl ⟨rfl, fun ⟨o, ho, h⟩ => hall o ho h, rfl⟩⟩⟩
   simp -implicitDefEqProofs [x445L1, hlen]
 have hsb := zlg S S.length hr.1 (by omega) (by omega)
 have hst := zls (ext := ext) h h' h2 h3 hr
 have hby := zay (ext := ext) h0 (sizeGo S.length S) (by omega) (by omega)
 obtain ⟨e, s', h1, _, ⟨rfl, hn, rfl⟩ | ⟨rfl, hn, rfl⟩⟩ := loop
 ·rw [za7 code ext h4]
  unfold greatOf
  rw [if_neg hn]
  by_cases hc : 20000 < IntKind.wrap .i64 (sumL S)
  ·simp -implicitDefEqProofs [x445, h1, hc]
  ·simp -implicitDefEqProofs [x445, h1, hc, hst, hby]
 ·rw [za7 code ext h4]
  unfold greatOf
  rw [if_pos hn]
  simp -implicitDefEqProofs [x445, h1]
theorem ze0 {S : List Obj} (hw : ∀ o ∈ S, tObj.wf o) (hlb : S.length ≤ 140737488355328) (h : greatOf S = false) : (∀ o ∈ S, o.l.xs.length ≤ 5000) ∧ S.length ≤ 1048576 ∧ sumL S ≤ 20000 := by
 unfold greatOf at h
 split at h
 ·cases h
 rename_i hn
 simp only [Bool.or_eq_false_iff, decide_eq_false_iff_not] at h
 have hsb := zlg S S.length hw (by omega) (by omega)
 have h1 : ∀ o ∈ S, o.l.xs.length ≤ 5000 := fun o ho => by
  rcases Nat.lt_or_ge 5000 o.l.xs.length with h | h
  ·exact absurd ⟨o, ho, by omega⟩ hn
  ·exact h
 have h2 : ∀ (l : List Obj), (∀ o ∈ l, o.l.xs.length ≤ 5000) → 0 ≤ sumL l ∧ sumL l ≤ 5000 * l.length := by
  intro l
  induction l with
  | nil => intro _; simp [sumL]
  | cons o l ih =>
   intro hl
   have := ih fun x hx => hl x (List.mem_cons_of_mem _ hx)
   have := hl o (List.mem_cons_self ..)
   rw [sumL, List.length_cons]
   omega
 have h3 := h2 S h1
 refine ⟨h1, by omega, ?_⟩
 have : IntKind.wrap .i64 (sumL S) = sumL S := wrapI64 (by omega) (by omega)
 omega
end
end Go.EX


set_option linter.unusedVariables false
set_option linter.unusedSimpArgs false
namespace Go.EX
def code4L : Nat → Option XFun
 | 244 => some x244
 | 245 => some x245
 | 246 => some x246
 | 303 => some x303
 | 338 => some x338
 | 339 => some x339
 | 361 => some x361
 | 380 => some x380
 | 440 => some x440
 | 444 => some x444
 | 445 => some x445
 | 446 => some x446
 | 646 => some x646
 | 647 => some x647
 | 648 => some x648
 | 649 => some x649
 | 650 => some x650
 | 651 => some x651
 | 652 => some x652
 | 653 => some x653
 | 654 => some x654
 | 655 => some x655
 | 656 => some x656
 | 657 => some x657
 | 669 => some x669
 | 673 => some x673
 | 709 => some x709
 | 745 => some x745
 | 749 => some x749
 | 755 => some x755
 | 759 => some x759
 | 785 => some x785
 | 786 => some x786
 | _ => none
theorem zbq : code4L yieldNo = none := by
 unfold code4L
 split <;> first | (rename_i h; exact absurd h (by decide)) | rfl
def ext4 (dg : Int → ByteArray) : Calls' := fun f a m =>
 if f = 674 then extCheck 674 674 a m
 else if f = 670 then extStr 670 670 a m
 else if f = 708 then match a with
  | [.imm (.val (.int .i64 n)), .imm (.val (.int .i64 10))] => if -9223372036854775808 ≤ n ∧ n ≤ 9223372036854775807 then some (.imm (.val (.string (dg n))), m) else none
  | _ => none
 else none
def dig1 (n : Int) : ByteArray := if n = 1 then ⟨#[49]⟩ else dig n
theorem zcf : dig1 = dig := by
 funext n
 unfold dig1
 split
 ·rename_i h
  subst h
  simp [dig, Lib.itoa, Lib.decDigits]
 ·rfl
theorem lives4 : callW code4L (ext4 dig) 444 [] [] = some (avb true, []) := by
 rw [← zcf]
 exact (za8 code4L (ext4 dig1)).2 ⟨60, by kernel_rfl⟩
theorem zdp {num : Names} {P : Program} (h1 : ExtOK num P (extCheck 674)) (h2 : ExtOK num P (extStr 670)) (h3 : ExtOK num P (extItoa 708)) : ExtOK num P (ext4 dig) := by
 intro f args m r m' C vals hc hm hl hr
 unfold ext4 at hc
 split at hc
 ·rename_i hf
  exact h1 f args m r m' C vals (by rw [hf]; exact hc) hm hl hr
 split at hc
 ·rename_i hf
  exact h2 f args m r m' C vals (by rw [hf]; exact hc) hm hl hr
 split at hc
 ·rename_i hf
  exact h3 f args m r m' C vals (by rw [hf]; exact hc) hm hl hr
 ·cases hc
theorem zlh {o : Obj} : ∀ (S : List Obj) (n : Int), (∀ p ∈ S, tObj.wf p) → o ∈ S → 0 ≤ n → sizeGo n S ≤ 1048576 → objSize o ≤ 1048576
 | [], n, _, h, _, _ => by cases h
 | p :: r, n, hw, h, h0, hz => by
  unfold sizeGo at hz
  have hp := zg1 p (hw p (List.mem_cons_self ..))
  split at hz
  ·rcases List.mem_cons.1 h with rfl | h
   ·have hmono : ∀ (r : List Obj) (n : Int), (∀ p ∈ r, tObj.wf p) → n ≤ sizeGo n r := by
     intro r
     induction r with
     | nil => intro n _; exact Int.le_refl _
     | cons q r ih =>
      intro n hq
      unfold sizeGo
      have := zg1 q (hq q (List.mem_cons_self ..))
      split
      ·have := ih (n + objSize q) fun p hp => hq p (List.mem_cons_of_mem _ hp)
       omega
      ·exact Int.le_refl _
    have := hmono r (n + objSize o) fun p hp => hw p (List.mem_cons_of_mem _ hp)
    omega
   ·exact zlh r _ (fun p hp => hw p (List.mem_cons_of_mem _ hp)) h (by omega) hz
  ·omega
theorem zlr {S : List Obj} (hwf : ∀ o ∈ S, tObj.wf o) (hlb : S.length ≤ 140737488355328) (hg : greatOf S = false) : StoreOK S := by
 obtain ⟨hl, hn, hs⟩ := ze0 hwf hlb hg
 refine ⟨hwf, fun o ho => ?_, fun o ho => Nat.le_trans (hl o ho) (by omega)⟩
 have hz : sizeGo S.length S ≤ 1048576 := by
  unfold greatOf at hg
  split at hg
  ·cases hg
  ·simp only [Bool.or_eq_false_iff, decide_eq_false_iff_not] at hg
   omega
 have := zlh (o := o) S S.length hwf ho (by omega) hz
 have hq := o.l.ok.2.1
 unfold objSize at this
 split at this <;> omega
end Go.EX


namespace Go.Proofs.YtbomedbbgfcncaaDoor
open Go.EX Go.Shelf
def gids : List Nat := [100000, 100001, 703, 442, 441, 440, 438, 445, 377, 648, 504, 334, 444, 447, 646, 649, 303, 361, 373, 246, 244, 670, 100, 330, 446, 448, 656, 745, 654, 647, 652, 657, 339, 372, 651, 673, 785, 786, 245, 669, 502, 98, 501, 99, 329, 755, 655, 749, 653, 650, 338, 379, 674, 708, 709, 336, 759, 380, 100058, 719, 718, 713, 714, 716, 732, 712, 715, 733, 734, 735, 100070, 100071, 100072, 100073, 100074, 100075, 100076, 100077, 100078, 100079, 100080, 100081, 100082, 100083, 100084, 100085, 100086, 100087, 100088, 100089, 100090, 100091, 704]
def num (f : FuncId) : Nat := (gids[f]?).getD (100000 + f)
theorem ok5 : FunOK Tryd.prog num 5 x440 := .of Tryd.func5 (by kernel_rfl) (by kernel_rfl) (by kernel_rfl) (by kernel_rfl) (by kernel_rfl)
theorem ok7 : FunOK Tryd.prog num 7 x445 := .of Tryd.func7 (by kernel_rfl) (by kernel_rfl) (by kernel_rfl) (by kernel_rfl) (by kernel_rfl)
theorem ok9 : FunOK Tryd.prog num 9 x648 := .of Tryd.func9 (by kernel_rfl) (by kernel_rfl) (by kernel_rfl) (by kernel_rfl) (by kernel_rfl)
theorem ok12 : FunOK Tryd.prog num 12 x444 := .of Tryd.func12 (by kernel_rfl) (by kernel_rfl) (by kernel_rfl) (by kernel_rfl) (by kernel_rfl)
theorem ok14 : FunOK Tryd.prog num 14 x646 := .of Tryd.func14 (by kernel_rfl) (by kernel_rfl) (by kernel_rfl) (by kernel_rfl) (by kernel_rfl)
theorem ok15 : FunOK Tryd.prog num 15 x649 := .of Tryd.func15 (by kernel_rfl) (by kernel_rfl) (by kernel_rfl) (by kernel_rfl) (by kernel_rfl)
theorem ok16 : FunOK Tryd.prog num 16 x303 := .of Tryd.func16 (by kernel_rfl) (by kernel_rfl) (by kernel_rfl) (by kernel_rfl) (by kernel_rfl)
theorem ok17 : FunOK Tryd.prog num 17 x361 := .of Tryd.func17 (by kernel_rfl) (by kernel_rfl) (by kernel_rfl) (by kernel_rfl) (by kernel_rfl)
theorem ok19 : FunOK Tryd.prog num 19 x246 := .of Tryd.func19 (by kernel_rfl) (by kernel_rfl) (by kernel_rfl) (by kernel_rfl) (by kernel_rfl)
theorem ok20 : FunOK Tryd.prog num 20 x244 := .of Tryd.func20 (by kernel_rfl) (by kernel_rfl) (by kernel_rfl) (by kernel_rfl) (by kernel_rfl)
theorem ok24 : FunOK Tryd.prog num 24 x446 := .of Tryd.func24 (by kernel_rfl) (by kernel_rfl) (by kernel_rfl) (by kernel_rfl) (by kernel_rfl)
theorem ok26 : FunOK Tryd.prog num 26 x656 := .of Tryd.func26 (by kernel_rfl) (by kernel_rfl) (by kernel_rfl) (by kernel_rfl) (by kernel_rfl)
theorem ok27 : FunOK Tryd.prog num 27 x745 := .of Tryd.func27 (by kernel_rfl) (by kernel_rfl) (by kernel_rfl) (by kernel_rfl) (by kernel_rfl)
theorem ok28 : FunOK Tryd.prog num 28 x654 := .of Tryd.func28 (by kernel_rfl) (by kernel_rfl) (by kernel_rfl) (by kernel_rfl) (by kernel_rfl)
theorem ok29 : FunOK Tryd.prog num 29 x647 := .of Tryd.func29 (by kernel_rfl) (by kernel_rfl) (by kernel_rfl) (by kernel_rfl) (by kernel_rfl)
theorem ok30 : FunOK Tryd.prog num 30 x652 := .of Tryd.func30 (by kernel_rfl) (by kernel_rfl) (by kernel_rfl) (by kernel_rfl) (by kernel_rfl)
theorem ok31 : FunOK Tryd.prog num 31 x657 := .of Tryd.func31 (by kernel_rfl) (by kernel_rfl) (by kernel_rfl) (by kernel_rfl) (by kernel_rfl)
theorem ok32 : FunOK Tryd.prog num 32 x339 := .of Tryd.func32 (by kernel_rfl) (by kernel_rfl) (by kernel_rfl) (by kernel_rfl) (by kernel_rfl)
theorem ok34 : FunOK Tryd.prog num 34 x651 := .of Tryd.func34 (by kernel_rfl) (by kernel_rfl) (by kernel_rfl) (by kernel_rfl) (by kernel_rfl)
theorem ok35 : FunOK Tryd.prog num 35 x673 := .of Tryd.func35 (by kernel_rfl) (by kernel_rfl) (by kernel_rfl) (by kernel_rfl) (by kernel_rfl)
theorem ok36 : FunOK Tryd.prog num 36 x785 := .of Tryd.func36 (by kernel_rfl) (by kernel_rfl) (by kernel_rfl) (by kernel_rfl) (by kernel_rfl)
theorem ok37 : FunOK Tryd.prog num 37 x786 := .of Tryd.func37 (by kernel_rfl) (by kernel_rfl) (by kernel_rfl) (by kernel_rfl) (by kernel_rfl)
theorem ok38 : FunOK Tryd.prog num 38 x245 := .of Tryd.func38 (by kernel_rfl) (by kernel_rfl) (by kernel_rfl) (by kernel_rfl) (by kernel_rfl)
theorem ok39 : FunOK Tryd.prog num 39 x669 := .of Tryd.func39 (by kernel_rfl) (by kernel_rfl) (by kernel_rfl) (by kernel_rfl) (by kernel_rfl)
theorem ok45 : FunOK Tryd.prog num 45 x755 := .of Tryd.func45 (by kernel_rfl) (by kernel_rfl) (by kernel_rfl) (by kernel_rfl) (by kernel_rfl)
theorem ok46 : FunOK Tryd.prog num 46 x655 := .of Tryd.func46 (by kernel_rfl) (by kernel_rfl) (by kernel_rfl) (by kernel_rfl) (by kernel_rfl)
theorem ok47 : FunOK Tryd.prog num 47 x749 := .of Tryd.func47 (by kernel_rfl) (by kernel_rfl) (by kernel_rfl) (by kernel_rfl) (by kernel_rfl)
theorem ok48 : FunOK Tryd.prog num 48 x653 := .of Tryd.func48 (by kernel_rfl) (by kernel_rfl) (by kernel_rfl) (by kernel_rfl) (by kernel_rfl)
theorem ok49 : FunOK Tryd.prog num 49 x650 := .of Tryd.func49 (by kernel_rfl) (by kernel_rfl) (by kernel_rfl) (by kernel_rfl) (by kernel_rfl)
theorem ok50 : FunOK Tryd.prog num 50 x338 := .of Tryd.func50 (by kernel_rfl) (by kernel_rfl) (by kernel_rfl) (by kernel_rfl) (by kernel_rfl)
theorem ok54 : FunOK Tryd.prog num 54 x709 := .of Tryd.func54 (by kernel_rfl) (by kernel_rfl) (by kernel_rfl) (by kernel_rfl) (by kernel_rfl)
theorem ok56 : FunOK Tryd.prog num 56 x759 := .of Tryd.func56 (by kernel_rfl) (by kernel_rfl) (by kernel_rfl) (by kernel_rfl) (by kernel_rfl)
theorem ok57 : FunOK Tryd.prog num 57 x380 := .of Tryd.func57 (by kernel_rfl) (by kernel_rfl) (by kernel_rfl) (by kernel_rfl) (by kernel_rfl)
abbrev FnAt (f : Nat) : Prop := ∀ xf, code4L (num f) = some xf → FunOK Tryd.prog num f xf
theorem hit {n : Nat} {x : XFun} (e : code4L (num n) = some x) (k : FunOK Tryd.prog num n x) (r : ∀ f, f < n → FnAt f) : ∀ f, f < n + 1 → FnAt f := fun f h xf hx => by
 rcases Nat.lt_or_eq_of_le (Nat.le_of_lt_succ h) with h | rfl
 ·exact r f h xf hx
 ·rw [e] at hx; cases hx; exact k
theorem nix {n : Nat} (e : code4L (num n) = none) (r : ∀ f, f < n → FnAt f) : ∀ f, f < n + 1 → FnAt f := fun f h xf hx => by
 rcases Nat.lt_or_eq_of_le (Nat.le_of_lt_succ h) with h | rfl
 ·exact r f h xf hx
 ·rw [e] at hx; cases hx
theorem upto20 : ∀ f, f < 20 → FnAt f :=
 hit (by kernel_rfl) ok19 <|
 nix (by kernel_rfl) <|
 hit (by kernel_rfl) ok17 <|
 hit (by kernel_rfl) ok16 <|
 hit (by kernel_rfl) ok15 <|
 hit (by kernel_rfl) ok14 <|
 nix (by kernel_rfl) <|
 hit (by kernel_rfl) ok12 <|
 nix (by kernel_rfl) <|
 nix (by kernel_rfl) <|
 hit (by kernel_rfl) ok9 <|
 nix (by kernel_rfl) <|
 hit (by kernel_rfl) ok7 <|
 nix (by kernel_rfl) <|
 hit (by kernel_rfl) ok5 <|
 nix (by kernel_rfl) <|
 nix (by kernel_rfl) <|
 nix (by kernel_rfl) <|
 nix (by kernel_rfl) <|
 nix (by kernel_rfl) (fun f h => absurd h (Nat.not_lt_zero f))
theorem upto40 : ∀ f, f < 40 → FnAt f :=
 hit (by kernel_rfl) ok39 <|
 hit (by kernel_rfl) ok38 <|
 hit (by kernel_rfl) ok37 <|
 hit (by kernel_rfl) ok36 <|
 hit (by kernel_rfl) ok35 <|
 hit (by kernel_rfl) ok34 <|
 nix (by kernel_rfl) <|
 hit (by kernel_rfl) ok32 <|
 hit (by kernel_rfl) ok31 <|
 hit (by kernel_rfl) ok30 <|
 hit (by kernel_rfl) ok29 <|
 hit (by kernel_rfl) ok28 <|
 hit (by kernel_rfl) ok27 <|
 hit (by kernel_rfl) ok26 <|
 nix (by kernel_rfl) <|
 hit (by kernel_rfl) ok24 <|
 nix (by kernel_rfl) <|
 nix (by kernel_rfl) <|
 nix (by kernel_rfl) <|
 hit (by kernel_rfl) ok20 upto20
theorem upto60 : ∀ f, f < 60 → FnAt f :=
 nix (by kernel_rfl) <|
 nix (by kernel_rfl) <|
 hit (by kernel_rfl) ok57 <|
 hit (by kernel_rfl) ok56 <|
 nix (by kernel_rfl) <|
 hit (by kernel_rfl) ok54 <|
 nix (by kernel_rfl) <|
 nix (by kernel_rfl) <|
 nix (by kernel_rfl) <|
 hit (by kernel_rfl) ok50 <|
 hit (by kernel_rfl) ok49 <|
 hit (by kernel_rfl) ok48 <|
 hit (by kernel_rfl) ok47 <|
 hit (by kernel_rfl) ok46 <|
 hit (by kernel_rfl) ok45 <|
 nix (by kernel_rfl) <|
 nix (by kernel_rfl) <|
 nix (by kernel_rfl) <|
 nix (by kernel_rfl) <|
 nix (by kernel_rfl) upto40
theorem upto80 : ∀ f, f < 80 → FnAt f :=
 nix (by kernel_rfl) <|
 nix (by kernel_rfl) <|
 nix (by kernel_rfl) <|
 nix (by kernel_rfl) <|
 nix (by kernel_rfl) <|
 nix (by kernel_rfl) <|
 nix (by kernel_rfl) <|
 nix (by kernel_rfl) <|
 nix (by kernel_rfl) <|
 nix (by kernel_rfl) <|
 nix (by kernel_rfl) <|
 nix (by kernel_rfl) <|
 nix (by kernel_rfl) <|
 nix (by kernel_rfl) <|
 nix (by kernel_rfl) <|
 nix (by kernel_rfl) <|
 nix (by kernel_rfl) <|
 nix (by kernel_rfl) <|
 nix (by kernel_rfl) <|
 nix (by kernel_rfl) upto60
theorem upto93 : ∀ f, f < 93 → FnAt f :=
 nix (by kernel_rfl) <|
 nix (by kernel_rfl) <|
 nix (by kernel_rfl) <|
 nix (by kernel_rfl) <|
 nix (by kernel_rfl) <|
 nix (by kernel_rfl) <|
 nix (by kernel_rfl) <|
 nix (by kernel_rfl) <|
 nix (by kernel_rfl) <|
 nix (by kernel_rfl) <|
 nix (by kernel_rfl) <|
 nix (by kernel_rfl) <|
 nix (by kernel_rfl) upto80
theorem fns (f : FuncId) (xf : XFun) (h : code4L (num f) = some xf) : FunOK Tryd.prog num f xf := by
 by_cases hf : f < 93
 ·exact upto93 f hf xf h
 ·have hn : num f = 100000 + f := by
   unfold num
   rw [List.getElem?_eq_none (by rw [show gids.length = 93 from by kernel_rfl]; simp only [FuncId] at *; omega)]; rfl
  rw [hn] at h
  unfold code4L at h
  split at h <;> first | (exfalso; simp only [FuncId] at *; omega) | cases h
theorem nz (f : FuncId) : num f ≠ yieldNo := by
 by_cases hf : f < 93
 ·exact (by decide +kernel : ∀ f : Fin 93, num f.val ≠ yieldNo) ⟨f, hf⟩
 ·have hn : num f = 100000 + f := by
   unfold num
   rw [List.getElem?_eq_none (by rw [show gids.length = 93 from by kernel_rfl]; simp only [FuncId] at *; omega)]; rfl
  rw [hn, yieldNo]
  simp only [FuncId] at *; omega
def ren169 : Go.Shelf.Ren := ⟨fun | 169 => 21 | n => n, fun | 70 => 45 | 9 => 9 | 0 => 0 | 72 => 48 | 37 => 46 | 127 => 79 | 3 => 3 | 5 => 5 | n => n, fun | n => n⟩
theorem lays169 : Go.Proofs.Lays.n169 Tryd.prog ren169 := {
 mixed := by kernel_rfl
 f169 := Tryd.func21.trans (congrArg some (by kernel_rfl))
 t0 := Tryd.underlying0
 a0 := Tryd.isAgg0
 z0 := Tryd.sizeOf0
 v0 := Tryd.zeroValue0
 t3 := Tryd.underlying3
 a3 := Tryd.isAgg3
 z3 := Tryd.sizeOf3
 v3 := Tryd.zeroValue3
 t9 := Tryd.underlying9
 a9 := Tryd.isAgg9
 z9 := Tryd.sizeOf9
 v9 := Tryd.zeroValue9
 t37 := Tryd.underlying46
 a37 := Tryd.isAgg46
 z37 := Tryd.sizeOf46
 v37 := Tryd.zeroValue46
 t70 := Tryd.underlying45
 a70 := Tryd.isAgg45
 z70 := Tryd.sizeOf45
 v70 := Tryd.zeroValue45
 t72 := Tryd.underlying48
 a72 := Tryd.isAgg48
 z72 := Tryd.sizeOf48
 v72 := Tryd.zeroValue48
 t127 := Tryd.underlying79
 a127 := Tryd.isAgg79
 z127 := Tryd.sizeOf79
 v127 := Tryd.zeroValue79 }
def ren246 : Go.Shelf.Ren := ⟨fun | 246 => 53 | 283 => 59 | 284 => 60 | 285 => 61 | 286 => 62 | 129 => 64 | 317 => 63 | 318 => 65 | 319 => 66 | 320 => 67 | 337 => 68 | 338 => 69 | n => n, fun | 2 => 2 | 3 => 3 | 9 => 9 | 4 => 4 | 171 => 102 | 0 => 0 | 53 => 93 | 37 => 46 | 5 => 5 | 173 => 105 | 212 => 109 | 51 => 110 | 20 => 20 | 213 => 111 | 46 => 113 | 232 => 116 | 233 => 117 | n => n, fun | 17 => 0 | 18 => 1 | 19 => 2 | n => n⟩
theorem lays246 : Go.Proofs.LaysM.n246 Tryd.prog ren246 := {
 mixed := by kernel_rfl
 f129 := Tryd.func64.trans (congrArg some (by kernel_rfl))
 f246 := Tryd.func53.trans (congrArg some (by kernel_rfl))
 f283 := Tryd.func59.trans (congrArg some (by kernel_rfl))
 f284 := Tryd.func60.trans (congrArg some (by kernel_rfl))
 f285 := Tryd.func61.trans (congrArg some (by kernel_rfl))
 f286 := Tryd.func62.trans (congrArg some (by kernel_rfl))
 f317 := Tryd.func63.trans (congrArg some (by kernel_rfl))
 f318 := Tryd.func65.trans (congrArg some (by kernel_rfl))
 f319 := Tryd.func66.trans (congrArg some (by kernel_rfl))
 f320 := Tryd.func67.trans (congrArg some (by kernel_rfl))
 f337 := Tryd.func68.trans (congrArg some (by kernel_rfl))
 f338 := Tryd.func69.trans (congrArg some (by kernel_rfl))
 t0 := Tryd.underlying0
 a0 := Tryd.isAgg0
 z0 := Tryd.sizeOf0
 v0 := Tryd.zeroValue0
 t2 := Tryd.underlying2
 a2 := Tryd.isAgg2
 z2 := Tryd.sizeOf2
 v2 := Tryd.zeroValue2
 t3 := Tryd.underlying3
 a3 := Tryd.isAgg3
 z3 := Tryd.sizeOf3
 v3 := Tryd.zeroValue3
 t4 := Tryd.underlying4
 a4 := Tryd.isAgg4
 z4 := Tryd.sizeOf4
 v4 := Tryd.zeroValue4
 t5 := Tryd.underlying5
 a5 := Tryd.isAgg5
 z5 := Tryd.sizeOf5
 v5 := Tryd.zeroValue5
 t9 := Tryd.underlying9
 a9 := Tryd.isAgg9
 z9 := Tryd.sizeOf9
 v9 := Tryd.zeroValue9
 t20 := Tryd.underlying20
 a20 := Tryd.isAgg20
 z20 := Tryd.sizeOf20
 v20 := Tryd.zeroValue20
 t37 := Tryd.underlying46
 a37 := Tryd.isAgg46
 z37 := Tryd.sizeOf46
 v37 := Tryd.zeroValue46
 t46 := Tryd.underlying113
 a46 := Tryd.isAgg113
 z46 := Tryd.sizeOf113
 v46 := Tryd.zeroValue113
 t51 := Tryd.underlying110
 a51 := Tryd.isAgg110
 z51 := Tryd.sizeOf110
 v51 := Tryd.zeroValue110
 t53 := Tryd.underlying93
 a53 := Tryd.isAgg93
 z53 := Tryd.sizeOf93
 v53 := Tryd.zeroValue93
 t171 := Tryd.underlying102
 a171 := Tryd.isAgg102
 z171 := Tryd.sizeOf102
 v171 := Tryd.zeroValue102
 t173 := Tryd.underlying105
 a173 := Tryd.isAgg105
 z173 := Tryd.sizeOf105
 v173 := Tryd.zeroValue105
 t212 := Tryd.underlying109
 a212 := Tryd.isAgg109
 z212 := Tryd.sizeOf109
 v212 := Tryd.zeroValue109
 t213 := Tryd.underlying111
 a213 := Tryd.isAgg111
 z213 := Tryd.sizeOf111
 t232 := Tryd.underlying116
 a232 := Tryd.isAgg116
 z232 := Tryd.sizeOf116
 v232 := Tryd.zeroValue116
 t233 := Tryd.underlying117
 a233 := Tryd.isAgg117
 z233 := Tryd.sizeOf117
 v233 := Tryd.zeroValue117
 g17 := by kernel_rfl
 g18 := by kernel_rfl
 g19 := by kernel_rfl
 i0 := by kernel_rfl
 i2 := by kernel_rfl
 i3 := by kernel_rfl
 i4 := by kernel_rfl
 i5 := by kernel_rfl
 i9 := by kernel_rfl
 i20 := by kernel_rfl
 i37 := by kernel_rfl
 i46 := by kernel_rfl
 i51 := by kernel_rfl
 i53 := by kernel_rfl
 i171 := by kernel_rfl
 i173 := by kernel_rfl
 i212 := by kernel_rfl
 i232 := by kernel_rfl
 i233 := by kernel_rfl
 m17 := by kernel_rfl
 m18 := by kernel_rfl
 m19 := by kernel_rfl }
theorem ck_num (f : FuncId) (h : num f = 674) : f = 52 := by
 by_cases hf : f < 93
 ·exact (by decide +kernel : ∀ f : Fin 93, num f.val = 674 → f.val = 52) ⟨f, hf⟩ h
 ·have hn : num f = 100000 + f := by
   unfold num
   rw [List.getElem?_eq_none (by rw [show gids.length = 93 from by kernel_rfl]; simp only [FuncId] at *; omega)]; rfl
  rw [hn] at h
  exfalso; simp only [FuncId] at *; omega
theorem str_num (f : FuncId) (h : num f = 670) : f = ren169.f 169 := by
 by_cases hf : f < 93
 ·exact (by decide +kernel : ∀ f : Fin 93, num f.val = 670 → f.val = ren169.f 169) ⟨f, hf⟩ h
 ·have hn : num f = 100000 + f := by
   unfold num
   rw [List.getElem?_eq_none (by rw [show gids.length = 93 from by kernel_rfl]; simp only [FuncId] at *; omega)]; rfl
  rw [hn] at h
  exfalso; simp only [FuncId] at *; omega
theorem fmt_num (f : FuncId) (h : num f = 708) : f = ren246.f 246 := by
 by_cases hf : f < 93
 ·exact (by decide +kernel : ∀ f : Fin 93, num f.val = 708 → f.val = ren246.f 246) ⟨f, hf⟩ h
 ·have hn : num f = 100000 + f := by
   unfold num
   rw [List.getElem?_eq_none (by rw [show gids.length = 93 from by kernel_rfl]; simp only [FuncId] at *; omega)]; rfl
  rw [hn] at h
  exfalso; simp only [FuncId] at *; omega
theorem zbl : Callable Tryd.prog 52 := ⟨Tryd.f52, Tryd.func52, by decide +kernel, by kernel_rfl⟩
theorem zlx : Callable Tryd.prog (ren169.f 169) := ⟨Tryd.f21, Tryd.func21, by decide +kernel, by kernel_rfl⟩
theorem zee : Callable Tryd.prog (ren246.f 246) := ⟨Tryd.f53, Tryd.func53, by decide +kernel, by kernel_rfl⟩
theorem strExtra : Builder.Extra Tryd.prog ren169 := {
 sizeBuilder := by kernel_rfl
 liesBuilder := by kernel_rfl
 t5 := Tryd.underlying5
 a5 := Tryd.isAgg5
 z5 := Tryd.sizeOf5
 v5 := Tryd.zeroValue5
 infoByte := by kernel_rfl
 cellsByte := by kernel_rfl
 sizeByte := by kernel_rfl
 neB5 := by decide }
abbrev powTab : Tab := ("internal/strconv.uint64pow10", .u64, Lib.pow10Tab)
theorem runs : Runs Tryd.prog (Names.tabs num Tryd.prog [powTab]) code4L (ext4 dig) :=
 ⟨by kernel_rfl, fns, zdp (zdq checkFacts (by kernel_rfl) ck_num zbl) (zdu lays169 strExtra str_num zlx) (zdr lays246 (List.mem_cons_self ..) fmt_num zee), nz, zbq, fun _ _ _ _ _ _ => Iff.rfl, fun _ _ _ h => h, fun _ h1 h2 => ⟨h1, h2⟩⟩
end Go.Proofs.YtbomedbbgfcncaaDoor


set_option linter.unusedVariables false
set_option linter.unusedSimpArgs false
namespace Go.EX
@[simp] theorem isNilK_tagP (b a : Nat) (row : List IV) (off : Nat) : isNilK 1 (.tag b a (.ptr row off)) = some false := rfl
@[simp] theorem isNilK_tagS (b a : Nat) (row : List IV) (off len : Nat) (cap : Option Nat) : isNilK 0 (.tag b a (.slice row off len cap)) = some false := rfl
@[simp] theorem isNil_tag (b a : Nat) (x : IV) : isNil (.tag b a x) = some false := rfl
@[simp] theorem lenOf_tag (b a : Nat) (row : List IV) (off len : Nat) (cap : Option Nat) : lenOf (.tag b a (.slice row off len cap)) = some len := rfl
structure TP where
 b : Nat
 a : Nat
 row : List IV
 off : Nat
def TP.at (t : TP) (k : Nat) : AV := .tag t.b (t.a + k * 5) (.ptr t.row (t.off + k * 5))
def TP.sl (t : TP) (n : Nat) (cap : Option Nat) : AV := .tag t.b t.a (.slice t.row t.off n cap)
@[simp] theorem at_ren (f : Nat → Option Nat) (t : TP) (k : Nat) : (t.at k).ren f = t.at k := rfl
@[simp] theorem at_refs (t : TP) (k : Nat) : (t.at k).refs = [] := rfl
def ptrsT (t : TP) (out : List Nat) : List AV := out.map t.at
def seenT (t : TP) (out : List Nat) : List (AV × AV) := out.map fun k => (t.at k, avb true)
@[simp] theorem renL_ptrsT (f : Nat → Option Nat) (t : TP) (out : List Nat) : AV.ren.renL f (ptrsT t out) = ptrsT t out := by
 rw [zjc]
 simp [ptrsT]
@[simp] theorem seenT_ren (f : Nat → Option Nat) (t : TP) (out : List Nat) : List.map (fun p => (AV.ren f p.1, AV.ren f p.2)) (seenT t out) = seenT t out := by
 simp [seenT, AV.ren]
@[simp] theorem refs_ptrsT (t : TP) (out : List Nat) : AV.refs.refsL (ptrsT t out) = [] := by
 unfold ptrsT
 induction out with
 | nil => rfl
 | cons x r ih => simp only [List.map_cons, AV.refs.refsL, ih, at_refs]; rfl
@[simp] theorem refs_seenT1 (t : TP) (out : List Nat) : AV.refs.refsL (List.map (fun x => x.1) (seenT t out)) = [] := by
 unfold seenT
 induction out with
 | nil => rfl
 | cons x r ih => simp only [List.map_cons, AV.refs.refsL, ih, at_refs]; rfl
@[simp] theorem refs_seenT2 (t : TP) (out : List Nat) : AV.refs.refsL (List.map (fun x => x.2) (seenT t out)) = [] := by
 unfold seenT
 induction out with
 | nil => rfl
 | cons x r ih => simp only [List.map_cons, AV.refs.refsL, ih, AV.refs]; rfl
theorem zfs (m : Mem) (t : TP) (k x : Nat) : keyEq m 3 (t.at k) (t.at x) = some (decide (k = x)) := by
 have h : (t.a + k * 5 == t.a + x * 5) = decide (k = x) := by
  by_cases h : k = x
  ·subst h; simp
  ·simp [h]
   omega
 simp [keyEq, TP.at, h]
theorem zd5 (t : TP) (k : Nat) : ∀ (out : List Nat) (i : Nat),
  (k ∉ out ∧ ∀ m : Mem, findK m 3 (t.at k) (seenT t out) i = some none) ∨
  (k ∈ out ∧ ∃ j, (∀ m : Mem, findK m 3 (t.at k) (seenT t out) i = some (some (i + j))) ∧ (seenT t out)[j]? = some (t.at k, avb true))
 | [], i => .inl ⟨by simp, fun _ => rfl⟩
 | x :: r, i => by
  by_cases h : k = x
  ·subst h
   exact .inr ⟨by simp, 0, fun m => by simp [seenT, findK, zfs], rfl⟩
  ·have hf : ∀ m : Mem, findK m 3 (t.at k) (seenT t (x :: r)) i = findK m 3 (t.at k) (seenT t r) (i + 1) := fun m => by simp [seenT, findK, zfs, h]
   rcases zd5 t k r (i + 1) with ⟨h1, h2⟩ | ⟨h1, j, h2, h3⟩
   ·exact .inl ⟨by simp [h, h1], fun m => by rw [hf, h2]⟩
   ·refine .inr ⟨by simp [h1], j + 1, fun m => ?_, h3⟩
    rw [hf, h2]; congr 2; omega
theorem zk0 (t : TP) (k : Nat) (out : List Nat) : seenT t out ++ [(t.at k, avb true)] = seenT t (out ++ [k]) := by simp [seenT]
theorem zik (t : TP) (k : Nat) (out : List Nat) : ptrsT t out ++ [t.at k] = ptrsT t (out ++ [k]) := by simp [ptrsT]
theorem zb1 (t : TP) (out : List Nat) : cut (ptrsT t out) 0 out.length = some (ptrsT t out) := zbw _ (by simp [ptrsT])
section
variable {code : Nat → Option XFun} {ext : Calls'}
def leadT (t : TP) : Option Nat → AV
 | some k => t.at k
 | none => .imm (.val (.pointer none))
structure StoreT (code : Nat → Option XFun) (ext : Calls') (sA : AV) (t : TP) (S : List Obj) : Prop where
 refs : sA.refs = []
 ren : ∀ f, sA.ren f = sA
 box : AV.cells sA = some [sA]
 lead : ∀ v : Val, (tInt .i64).wf v.n → callW code ext 651 [sA, .agg [.imm (.val (.int .u8 v.k)), int64 v.n]] [] = some (leadT t (leadsOf S v), [])
 obj : ∀ (k : Nat) (o : Obj), S[k]? = some o → cut t.row (t.off + k * 5) 5 = some [.val (.int .u8 o.k), .val (.string o.s), o.l.iv, .val (.int .i64 o.room), .val (.int .i64 o.fn)]
theorem zf4 (h : code 651 = some x651) (t : TP) (S : List Obj) (cap : Option Nat) (hr : Reads tObj (.slice t.row t.off S.length cap) S) (v : Val) (hv : (tInt .i64).wf v.n) :
  callW code ext 651 [t.sl S.length cap, .agg [.imm (.val (.int .u8 v.k)), int64 v.n]] [] = some (leadT t (leadsOf S v), []) := by
 have hb := hr.2.1
 rw [za7 code ext h]
 unfold leadsOf TP.sl
 by_cases c1 : v.k < 3
 ·simp -implicitDefEqProofs [x651, c1, leadT]
 by_cases c2 : 7 < v.k
 ·simp -implicitDefEqProofs [x651, c1, c2, leadT]
 by_cases c3 : v.n < 1
 ·simp -implicitDefEqProofs [x651, c1, c2, c3, leadT]
 by_cases c4 : (S.length : Int) < v.n
 ·simp -implicitDefEqProofs [x651, c1, c2, c3, c4, leadT, lenOf]
 obtain ⟨vk, vn⟩ := v
 simp only at c1 c2 c3 c4 ⊢
 obtain ⟨p, rfl⟩ : ∃ p : Nat, vn = (p : Int) + 1 := ⟨(vn - 1).toNat, by omega⟩
 have hlt : p < S.length := by omega
 have hi := List.getElem?_eq_getElem hlt
 have ep : ((p : Int) + 1 - 1).toNat = p := by omega
 rw [if_neg c1, if_neg c2, if_neg c3, if_neg c4, ep, hi]
 obtain ⟨row', off', cap', he, _, _, hget⟩ := zi5 hr hi
 cases he
 generalize S[p] = o at hget
 simp only [tObj] at hget
 have g0 : t.row[t.off + p * 5]? = some (.val (.int .u8 o.k)) := zby hget 0 (by omega)
 have e1 : IntKind.wrap .i64 (p : Int) = p := wrapI64 (by omega) (by omega)
 by_cases c5 : o.k = vk
 ·simp -implicitDefEqProofs [x651, c1, c2, c3, c4, e1, g0, c5, hlt, leadT, lenOf, TP.at]
 ·simp -implicitDefEqProofs [x651, c1, c2, c3, c4, e1, g0, c5, hlt, leadT, lenOf, TP.at]
theorem zf2 (h : code 651 = some x651) (t : TP) {sv : IV} (hr : Reads tObj sv []) (v : Val) (hv : (tInt .i64).wf v.n) :
  callW code ext 651 [.imm sv, .agg [.imm (.val (.int .u8 v.k)), int64 v.n]] [] = some (leadT t (leadsOf [] v), []) := by
 have hlen : lenOf (.imm sv) = some 0 := zi3 hr
 have hn : leadsOf [] v = none := by
  cases hq : leadsOf [] v with
  | none => rfl
  | some k => exact absurd (zf3 hq).1 (by simp)
 rw [hn, za7 code ext h]
 by_cases c1 : v.k < 3
 ·simp -implicitDefEqProofs [x651, c1, leadT]
 by_cases c2 : 7 < v.k
 ·simp -implicitDefEqProofs [x651, c1, c2, leadT]
 by_cases c3 : v.n < 1
 ·simp -implicitDefEqProofs [x651, c1, c2, c3, leadT]
 have c4 : (0 : Int) < v.n := by omega
 simp -implicitDefEqProofs [x651, c1, c2, c3, c4, leadT, hlen]
theorem zlu (h : code 651 = some x651) (t : TP) (S : List Obj) (cap : Option Nat) (hr : Reads tObj (.slice t.row t.off S.length cap) S) : StoreT code ext (t.sl S.length cap) t S :=
 ⟨rfl, fun _ => rfl, rfl, fun v hv => zf4 h t S cap hr v hv, fun k o ho => by
  obtain ⟨row', off', cap', he, _, _, hget⟩ := zi5 hr ho
  cases he
  exact hget⟩
theorem zlt (h : code 651 = some x651) (t : TP) {sv : IV} (hr : Reads tObj sv []) : StoreT code ext (.imm sv) t [] :=
 ⟨rfl, fun _ => rfl, rfl, fun v hv => zf2 h t hr v hv, fun k o ho => by simp at ho⟩
end
end Go.EX

