import Derived.Test.YtbomedbbgfcncaaDoorK1
import Derived.Test.YtbomedbbgfcncaaDoorK8
import Derived.Laws.Strings
import Derived.Test.YtbomedbbgfcncaaDoorBld2
set_option linter.unusedVariables false
set_option linter.unusedSimpArgs false
namespace Go.EX
def x445L1 : XCode :=
 (.seq (.seq (.region [0, 3, 4, 8] [o0 5 (.mv (.t 4)),
 o0 6 (.mv (.t 0)),
 o0 7 (.len (.t 6)),
 o0 8 (.bin .lss (.t 5) (.t 7))]) (.cond (.t 8) .skip (.exit 0))) (.seq (.block 1 (.seq (.seq (.region [0, 3, 4, 17] [o0 11 (.mv (.t 0)),
 o0 12 (.mv (.t 4)),
 o0 13 (.idxA 5 (.t 11) (.t 12)),
 o0 14 (.fieldA 2 (.t 13)),
 o0 15 (.load none (.t 14)),
 o0 16 (.len (.t 15)),
 o0 17 (.bin .gtr (.t 16) (.c (.int .i64 5000)))]) (.cond (.t 17) (.seq (.region [2] [o0 2 (.mv (.c (.bool true)))]) .ret) .skip)) (.region [0, 3, 4] [o0 18 (.mv (.t 3)),
 o0 19 (.mv (.t 0)),
 o0 20 (.mv (.t 4)),
 o0 21 (.idxA 5 (.t 19) (.t 20)),
 o0 22 (.fieldA 2 (.t 21)),
 o0 23 (.load none (.t 22)),
 o0 24 (.len (.t 23)),
 o0 25 (.bin .add (.t 18) (.t 24)),
 o0 3 (.mv (.t 25))]))) (.region [0, 3, 4] [o0 9 (.mv (.t 4)),
 o0 10 (.bin .add (.t 9) (.c (.int .i64 1))),
 o0 4 (.mv (.t 10))])))
def x445 : XFun :=
 ⟨[.tmp 2],(.seq (.region [0] [o0 2 (.mv (.c (.bool false)))]) (.seq (.region [0, 3] [o0 3 (.mv (.c (.int .i64 0)))]) (.seq (.seq (.region [0, 3, 4] [o0 4 (.mv (.c (.int .i64 0)))]) (.block 0 (.loop [0, 3, 4] x445L1))) (.seq (.region [2] [o0 26 (.mv (.t 3)),
 o0 27 (.bin .gtr (.t 26) (.c (.int .i64 20000))),
 o0 28 (.mv (.t 27)),
 o1 29 28 false (.mv (.t 0)),
 o1 30 28 false (.call .view 361 [.t 29]),
 o1 31 28 false (.buildSlice 1 [(.int .i64 0)] 1 [(0, 1,(.t 30))]),
 o1 32 28 false (.call .view 303 [.t 31]),
 o0 33 (.pick (.t 28) (.c (.bool true)) (.t 32)),
 o0 2 (.mv (.t 33))]) .ret))))⟩
def x649L1 : XCode :=
 (.seq (.region [4, 9, 10, 11, 12] [o0 12 (.bin .lss (.t 11) (.t 10))]) (.seq (.cond (.t 12) .skip (.exit 0)) (.seq (.block 1 (.seq (.region [4, 6, 9, 10, 11] [o0 13 (.idxA 1 (.t 9) (.t 11)),
 o0 14 (.load none (.t 13)),
 o0 6 (.mv (.t 14))]) (.region [4, 9, 10, 11] [o0 15 (.mv (.t 4)),
 o0 16 (.mv (.t 6)),
 o0 17 (.call .share 657 [.t 16]),
 o0 18 (.bin .add (.t 15) (.t 17)),
 o0 4 (.mv (.t 18))]))) (.region [4, 9, 10, 11] [o0 19 (.bin .add (.t 11) (.c (.int .i64 1))),
 o0 11 (.mv (.t 19))]))))
def x649 : XFun :=
 ⟨[.tmp 4],(.seq (.region [0, 1, 4] [o0 4 (.mv (.c (.int .i64 0)))]) (.seq (.seq (.region [4, 9, 10, 11] [o0 7 (.mv (.t 0)),
 o0 8 (.mv (.t 1)),
 o0 9 (.call .share 654 [(.t 7),(.t 8)]),
 o0 10 (.len (.t 9)),
 o0 11 (.mv (.c (.int .i64 0)))]) (.block 0 (.loop [4, 9, 10, 11] x649L1))) (.seq (.region [4] [o0 20 (.mv (.t 4)),
 o0 4 (.mv (.t 20))]) .ret)))⟩
def x646 : XFun :=
 ⟨[.tmp 4],(.seq (.region [2, 3] [o0 2 (.box 1 (.t 0)),
 o0 3 (.box 2 (.t 1)),
 o0 4 (.mv (.c (.bool false)))]) (.seq (.region [4] [o0 5 (.load none (.t 2)),
 o0 6 (.load (some 2) (.t 3)),
 o0 7 (.call .share 656 [(.t 5),(.t 6)]),
 o0 8 (.mv (.t 7)),
 o1 9 8 true (.load none (.t 2)),
 o1 10 8 true (.load (some 2) (.t 3)),
 o1 11 8 true (.buildSlice 2 [(.int .u8 0),(.int .i64 0)] 1 [(0, 2,(.t 10))]),
 o1 12 8 true (.call .share 654 [(.t 9),(.t 11)]),
 o1 13 8 true (.mkClo 647 [.t 2]),
 o1 14 8 true (.call .share 745 [(.t 12),(.t 13)]),
 o1 15 8 true (.un .not (.t 14)),
 o0 16 (.pick (.t 8) (.t 15) (.c (.bool false))),
 o0 4 (.mv (.t 16))]) .ret))⟩
def x303L1 : XCode :=
 (.seq (.seq (.region [0, 3, 4, 8] [o0 5 (.mv (.t 4)),
 o0 6 (.mv (.t 0)),
 o0 7 (.len (.t 6)),
 o0 8 (.bin .lss (.t 5) (.t 7))]) (.cond (.t 8) .skip (.exit 0))) (.seq (.block 1 (.seq (.region [0, 3, 4] [o0 11 (.mv (.t 3)),
 o0 12 (.mv (.t 0)),
 o0 13 (.mv (.t 4)),
 o0 14 (.idxA 1 (.t 12) (.t 13)),
 o0 15 (.load none (.t 14)),
 o0 16 (.bin .add (.t 11) (.t 15)),
 o0 3 (.mv (.t 16))]) (.seq (.region [0, 3, 4, 18] [o0 17 (.mv (.t 3)),
 o0 18 (.bin .gtr (.t 17) (.c (.int .i64 1048576)))]) (.cond (.t 18) (.seq (.region [2] [o0 2 (.mv (.c (.bool true)))]) .ret) .skip)))) (.region [0, 3, 4] [o0 9 (.mv (.t 4)),
 o0 10 (.bin .add (.t 9) (.c (.int .i64 1))),
 o0 4 (.mv (.t 10))])))
def x303 : XFun :=
 ⟨[.tmp 2],(.seq (.region [0] [o0 2 (.mv (.c (.bool false)))]) (.seq (.region [0, 3] [o0 3 (.mv (.c (.int .i64 0)))]) (.seq (.seq (.region [0, 3, 4] [o0 4 (.mv (.c (.int .i64 0)))]) (.block 0 (.loop [0, 3, 4] x303L1))) (.seq (.region [2] [o0 2 (.mv (.c (.bool false)))]) .ret))))⟩
def x361 : XFun :=
 ⟨[.tmp 2],(.seq (.region [0] [o0 2 (.mv (.c (.int .i64 0)))]) (.seq (.region [2] [o0 3 (.mv (.t 0)),
 o0 4 (.call .view 339 [.t 3]),
 o0 2 (.mv (.t 4))]) .ret))⟩
def x654L1 : XCode :=
 (.seq (.seq (.region [4, 6, 7, 16] [o0 13 (.mv (.t 7)),
 o0 14 (.load none (.t 4)),
 o0 15 (.len (.t 14)),
 o0 16 (.bin .lss (.t 13) (.t 15))]) (.cond (.t 16) .skip (.exit 0))) (.seq (.block 1 (.region [4, 6, 7] [o0 19 (.mv (.t 6)),
 o0 20 (.load none (.t 4)),
 o0 21 (.mv (.t 7)),
 o0 22 (.idxA 1 (.t 20) (.t 21)),
 o0 23 (.load none (.t 22)),
 o0 24 (.nilCheck (.t 23)),
 o0 25 (.fieldA 2 (.t 24)),
 o0 26 (.load none (.t 25)),
 o0 27 (.callV (.t 19) [.t 26])])) (.region [4, 6, 7] [o0 17 (.mv (.t 7)),
 o0 18 (.bin .add (.t 17) (.c (.int .i64 1))),
 o0 7 (.mv (.t 18))])))
def x654 : XFun :=
 ⟨[.cell 4 none],(.seq (.region [1, 2, 4] [o0 2 (.box 1 (.t 0)),
 o0 4 (.alloc [(.slice none 0 0)])]) (.seq (.region [1, 2, 4, 5] [o0 8 (.makeMap none),
 o0 5 (.alloc [(.map none)]),
 o2 (.store 1 (.t 5) (.t 8))]) (.seq (.region [1, 4, 6] [o0 9 (.mkClo 655 [(.t 2),(.t 5),(.t 4)]),
 o0 6 (.mv (.t 9))]) (.seq (.region [4, 6] [o0 10 (.mv (.t 6)),
 o0 11 (.mv (.t 1)),
 o0 12 (.callV (.t 10) [.t 11])]) (.seq (.seq (.region [4, 6, 7] [o0 7 (.mv (.c (.int .i64 0)))]) (.block 0 (.loop [4, 6, 7] x654L1))) (.seq (.region [4] [o0 28 (.load none (.t 4)),
 o2 (.store 1 (.t 4) (.t 28))]) .ret))))))⟩
def x657 : XFun :=
 ⟨[.tmp 2],(.seq (.region [0] [o0 2 (.mv (.c (.int .i64 0)))]) (.seq (.seq (.region [0, 6] [o0 3 (.mv (.t 0)),
 o0 4 (.nilCheck (.t 3)),
 o0 5 (.fieldA 0 (.t 4)),
 o0 6 (.load none (.t 5))]) (.block 0 (.seq (.region [0, 6, 7] [o0 8 (.bin .eql (.t 6) (.c (.int .u8 3))),
 o0 7 (.mv (.t 8))]) (.cond (.t 7) (.seq (.region [2] [o0 9 (.mv (.t 0)),
 o0 10 (.nilCheck (.t 9)),
 o0 11 (.fieldA 1 (.t 10)),
 o0 12 (.load none (.t 11)),
 o0 13 (.lenS (.t 12)),
 o0 14 (.bin .add (.t 13) (.c (.int .i64 7))),
 o0 15 (.bin .quo (.t 14) (.c (.int .i64 8))),
 o0 16 (.bin .add (.c (.int .i64 2)) (.t 15)),
 o0 2 (.mv (.t 16))]) .ret) (.seq (.seq (.region [0, 6, 17] [o0 18 (.bin .eql (.t 6) (.c (.int .u8 4))),
 o0 17 (.mv (.t 18))]) (.cond (.t 17) .skip (.region [0, 6, 17] [o0 19 (.bin .eql (.t 6) (.c (.int .u8 5))),
 o0 17 (.mv (.t 19))]))) (.cond (.t 17) (.seq (.seq (.region [0, 24] [o0 20 (.mv (.t 0)),
 o0 21 (.nilCheck (.t 20)),
 o0 22 (.fieldA 3 (.t 21)),
 o0 23 (.load none (.t 22)),
 o0 24 (.bin .gtr (.t 23) (.c (.int .i64 0)))]) (.cond (.t 24) (.seq (.region [2] [o0 25 (.mv (.t 0)),
 o0 26 (.nilCheck (.t 25)),
 o0 27 (.fieldA 3 (.t 26)),
 o0 28 (.load none (.t 27)),
 o0 29 (.bin .mul (.c (.int .i64 2)) (.t 28)),
 o0 30 (.bin .add (.c (.int .i64 4)) (.t 29)),
 o0 2 (.mv (.t 30))]) .ret) .skip)) (.seq (.region [2] [o0 2 (.mv (.c (.int .i64 3)))]) .ret)) (.seq (.region [0, 31] [o0 32 (.bin .eql (.t 6) (.c (.int .u8 6))),
 o0 31 (.mv (.t 32))]) (.cond (.t 31) (.seq (.region [2] [o0 33 (.mv (.t 0)),
 o0 34 (.nilCheck (.t 33)),
 o0 35 (.fieldA 2 (.t 34)),
 o0 36 (.load none (.t 35)),
 o0 37 (.len (.t 36)),
 o0 38 (.bin .mul (.c (.int .i64 2)) (.t 37)),
 o0 39 (.bin .add (.c (.int .i64 2)) (.t 38)),
 o0 2 (.mv (.t 39))]) .ret) .skip)))))))) (.seq (.region [2] [o0 2 (.mv (.c (.int .i64 3)))]) .ret)))⟩
def x656 : XFun :=
 ⟨[.tmp 4],(.seq (.region [0, 3] [o0 3 (.box 2 (.t 1)),
 o0 4 (.mv (.c (.bool false)))]) (.seq (.seq (.region [0, 3, 6] [o0 5 (.fieldA 0 (.t 3)),
 o0 6 (.load none (.t 5))]) (.block 0 (.seq (.region [0, 3, 6, 7] [o0 8 (.bin .eql (.t 6) (.c (.int .u8 0))),
 o0 7 (.mv (.t 8))]) (.cond (.t 7) (.seq (.region [4] [o0 9 (.fieldA 1 (.t 3)),
 o0 10 (.load none (.t 9)),
 o0 11 (.bin .eql (.t 10) (.c (.int .i64 0))),
 o0 4 (.mv (.t 11))]) .ret) (.seq (.region [0, 3, 6, 12] [o0 13 (.bin .eql (.t 6) (.c (.int .u8 1))),
 o0 12 (.mv (.t 13))]) (.cond (.t 12) (.seq (.region [4] [o0 14 (.fieldA 1 (.t 3)),
 o0 15 (.load none (.t 14)),
 o0 16 (.bin .eql (.t 15) (.c (.int .i64 0))),
 o0 17 (.mv (.t 16)),
 o1 18 17 false (.fieldA 1 (.t 3)),
 o1 19 17 false (.load none (.t 18)),
 o1 20 17 false (.bin .eql (.t 19) (.c (.int .i64 1))),
 o0 21 (.pick (.t 17) (.c (.bool true)) (.t 20)),
 o0 4 (.mv (.t 21))]) .ret) (.seq (.region [0, 3, 22] [o0 23 (.bin .eql (.t 6) (.c (.int .u8 2))),
 o0 22 (.mv (.t 23))]) (.cond (.t 22) (.seq (.region [4] [o0 4 (.mv (.c (.bool true)))]) .ret) .skip)))))))) (.seq (.region [4] [o0 24 (.mv (.t 0)),
 o0 25 (.load (some 2) (.t 3)),
 o0 26 (.call .share 651 [(.t 24),(.t 25)]),
 o0 27 (.eqNil true 1 (.t 26)),
 o0 4 (.mv (.t 27))]) .ret)))⟩
def x745 : XFun :=
 ⟨[.tmp 4],(.seq (.region [0, 1] [o0 4 (.mv (.c (.bool false)))]) (.seq (.region [4] [o0 5 (.mv (.t 0)),
 o0 6 (.mv (.t 1)),
 o0 7 (.call .share 755 [(.t 5),(.t 6)]),
 o0 8 (.bin .geq (.t 7) (.c (.int .i64 0))),
 o0 4 (.mv (.t 8))]) .ret))⟩
def x647 : XFun :=
 ⟨[.tmp 3],(.seq (.region [0, 1] [o0 3 (.mv (.c (.bool false)))]) (.seq (.region [3] [o0 4 (.load none (.t 1)),
 o0 5 (.mv (.t 0)),
 o0 6 (.call .share 652 [(.t 4),(.t 5)]),
 o0 7 (.un .not (.t 6)),
 o0 3 (.mv (.t 7))]) .ret))⟩
def x652 : XFun :=
 ⟨[.tmp 4],(.seq (.region [2, 3] [o0 2 (.box 1 (.t 0)),
 o0 3 (.box 1 (.t 1)),
 o0 4 (.mv (.c (.bool false)))]) (.seq (.region [2, 3, 5] [o0 7 (.load none (.t 3)),
 o0 8 (.nilCheck (.t 7)),
 o0 9 (.fieldA 2 (.t 8)),
 o0 10 (.load none (.t 9)),
 o0 11 (.len (.t 10)),
 o0 5 (.mv (.t 11))]) (.seq (.region [2, 3, 5, 6] [o0 12 (.load none (.t 3)),
 o0 13 (.nilCheck (.t 12)),
 o0 14 (.fieldA 1 (.t 13)),
 o0 15 (.load none (.t 14)),
 o0 16 (.bin .eql (.t 15) (.c (.string .empty))),
 o0 17 (.mv (.t 16)),
 o1 18 17 true (.load none (.t 3)),
 o1 19 17 true (.nilCheck (.t 18)),
 o1 20 17 true (.fieldA 4 (.t 19)),
 o1 21 17 true (.load none (.t 20)),
 o1 22 17 true (.bin .eql (.t 21) (.c (.int .i64 0))),
 o0 23 (.pick (.t 17) (.t 22) (.c (.bool false))),
 o0 24 (.mv (.t 23)),
 o1 25 24 true (.load none (.t 3)),
 o1 26 24 true (.nilCheck (.t 25)),
 o1 27 24 true (.fieldA 3 (.t 26)),
 o1 28 24 true (.load none (.t 27)),
 o1 29 24 true (.mv (.t 5)),
 o1 30 24 true (.bin .geq (.t 28) (.t 29)),
 o0 31 (.pick (.t 24) (.t 30) (.c (.bool false))),
 o0 32 (.mv (.t 31)),
 o1 33 32 true (.load none (.t 3)),
 o1 34 32 true (.nilCheck (.t 33)),
 o1 35 32 true (.fieldA 3 (.t 34)),
 o1 36 32 true (.load none (.t 35)),
 o1 37 32 true (.bin .leq (.t 36) (.c (.int .i64 262144))),
 o0 38 (.pick (.t 32) (.t 37) (.c (.bool false))),
 o0 6 (.mv (.t 38))]) (.seq (.seq (.region [2, 3, 5, 6, 44] [o0 39 (.load none (.t 3)),
 o0 40 (.nilCheck (.t 39)),
 o0 41 (.fieldA 2 (.t 40)),
 o0 42 (.load none (.t 41)),
 o0 43 (.mkClo 653 [(.t 2),(.t 3)]),
 o0 44 (.call .share 749 [(.t 42),(.t 43)])]) (.cond (.t 44) (.seq (.region [4] [o0 4 (.mv (.c (.bool false)))]) .ret) .skip)) (.seq (.seq (.region [2, 3, 5, 6, 48] [o0 45 (.load none (.t 3)),
 o0 46 (.nilCheck (.t 45)),
 o0 47 (.fieldA 0 (.t 46)),
 o0 48 (.load none (.t 47))]) (.block 0 (.seq (.region [2, 3, 5, 6, 48, 49] [o0 50 (.bin .eql (.t 48) (.c (.int .u8 3))),
 o0 49 (.mv (.t 50))]) (.cond (.t 49) (.seq (.region [4] [o0 51 (.load none (.t 3)),
 o0 52 (.nilCheck (.t 51)),
 o0 53 (.fieldA 1 (.t 52)),
 o0 54 (.load none (.t 53)),
 o0 55 (.lenS (.t 54)),
 o0 56 (.bin .leq (.t 55) (.c (.int .i64 4096))),
 o0 57 (.mv (.t 56)),
 o1 58 57 true (.mv (.t 5)),
 o1 59 57 true (.bin .eql (.t 58) (.c (.int .i64 0))),
 o0 60 (.pick (.t 57) (.t 59) (.c (.bool false))),
 o0 61 (.mv (.t 60)),
 o1 62 61 true (.load none (.t 3)),
 o1 63 61 true (.nilCheck (.t 62)),
 o1 64 61 true (.fieldA 3 (.t 63)),
 o1 65 61 true (.load none (.t 64)),
 o1 66 61 true (.bin .eql (.t 65) (.c (.int .i64 0))),
 o0 67 (.pick (.t 61) (.t 66) (.c (.bool false))),
 o0 68 (.mv (.t 67)),
 o1 69 68 true (.load none (.t 3)),
 o1 70 68 true (.nilCheck (.t 69)),
 o1 71 68 true (.fieldA 4 (.t 70)),
 o1 72 68 true (.load none (.t 71)),
 o1 73 68 true (.bin .eql (.t 72) (.c (.int .i64 0))),
 o0 74 (.pick (.t 68) (.t 73) (.c (.bool false))),
 o0 4 (.mv (.t 74))]) .ret) (.seq (.region [2, 3, 5, 6, 48, 75] [o0 76 (.bin .eql (.t 48) (.c (.int .u8 4))),
 o0 75 (.mv (.t 76))]) (.cond (.t 75) (.seq (.region [4] [o0 77 (.mv (.t 6)),
 o0 78 (.mv (.t 77)),
 o1 79 78 true (.mv (.t 5)),
 o1 80 78 true (.bin .leq (.t 79) (.c (.int .i64 65536))),
 o0 81 (.pick (.t 78) (.t 80) (.c (.bool false))),
 o0 4 (.mv (.t 81))]) .ret) (.seq (.region [2, 3, 5, 6, 48, 82] [o0 83 (.bin .eql (.t 48) (.c (.int .u8 5))),
 o0 82 (.mv (.t 83))]) (.cond (.t 82) (.seq (.region [4] [o0 84 (.mv (.t 6)),
 o0 85 (.mv (.t 84)),
 o1 86 85 true (.mv (.t 5)),
 o1 87 85 true (.bin .rem (.t 86) (.c (.int .i64 2))),
 o1 88 85 true (.bin .eql (.t 87) (.c (.int .i64 0))),
 o0 89 (.pick (.t 85) (.t 88) (.c (.bool false))),
 o0 90 (.mv (.t 89)),
 o1 91 90 true (.mv (.t 5)),
 o1 92 90 true (.bin .leq (.t 91) (.c (.int .i64 131072))),
 o0 93 (.pick (.t 90) (.t 92) (.c (.bool false))),
 o0 94 (.mv (.t 93)),
 o1 95 94 true (.load none (.t 2)),
 o1 96 94 true (.load none (.t 3)),
 o1 97 94 true (.nilCheck (.t 96)),
 o1 98 94 true (.fieldA 2 (.t 97)),
 o1 99 94 true (.load none (.t 98)),
 o1 100 94 true (.call .share 650 [(.t 95),(.t 99)]),
 o0 101 (.pick (.t 94) (.t 100) (.c (.bool false))),
 o0 4 (.mv (.t 101))]) .ret) (.seq (.region [3, 5, 102] [o0 103 (.bin .eql (.t 48) (.c (.int .u8 6))),
 o0 102 (.mv (.t 103))]) (.cond (.t 102) (.seq (.region [4] [o0 104 (.load none (.t 3)),
 o0 105 (.nilCheck (.t 104)),
 o0 106 (.fieldA 1 (.t 105)),
 o0 107 (.load none (.t 106)),
 o0 108 (.bin .eql (.t 107) (.c (.string .empty))),
 o0 109 (.mv (.t 108)),
 o1 110 109 true (.load none (.t 3)),
 o1 111 109 true (.nilCheck (.t 110)),
 o1 112 109 true (.fieldA 3 (.t 111)),
 o1 113 109 true (.load none (.t 112)),
 o1 114 109 true (.bin .eql (.t 113) (.c (.int .i64 0))),
 o0 115 (.pick (.t 109) (.t 114) (.c (.bool false))),
 o0 116 (.mv (.t 115)),
 o1 117 116 true (.load none (.t 3)),
 o1 118 116 true (.nilCheck (.t 117)),
 o1 119 116 true (.fieldA 4 (.t 118)),
 o1 120 116 true (.load none (.t 119)),
 o1 121 116 true (.bin .geq (.t 120) (.c (.int .i64 0))),
 o0 122 (.pick (.t 116) (.t 121) (.c (.bool false))),
 o0 123 (.mv (.t 122)),
 o1 124 123 true (.load none (.t 3)),
 o1 125 123 true (.nilCheck (.t 124)),
 o1 126 123 true (.fieldA 4 (.t 125)),
 o1 127 123 true (.load none (.t 126)),
 o1 128 123 true (.bin .lss (.t 127) (.c (.int .i64 256))),
 o0 129 (.pick (.t 123) (.t 128) (.c (.bool false))),
 o0 4 (.mv (.t 129))]) .ret) .skip)))))))))) (.seq (.region [4] [o0 130 (.load none (.t 3)),
 o0 131 (.nilCheck (.t 130)),
 o0 132 (.fieldA 1 (.t 131)),
 o0 133 (.load none (.t 132)),
 o0 134 (.bin .eql (.t 133) (.c (.string .empty))),
 o0 135 (.mv (.t 134)),
 o1 136 135 true (.load none (.t 3)),
 o1 137 135 true (.nilCheck (.t 136)),
 o1 138 135 true (.fieldA 3 (.t 137)),
 o1 139 135 true (.load none (.t 138)),
 o1 140 135 true (.bin .eql (.t 139) (.c (.int .i64 0))),
 o0 141 (.pick (.t 135) (.t 140) (.c (.bool false))),
 o0 142 (.mv (.t 141)),
 o1 143 142 true (.load none (.t 3)),
 o1 144 142 true (.nilCheck (.t 143)),
 o1 145 142 true (.fieldA 4 (.t 144)),
 o1 146 142 true (.load none (.t 145)),
 o1 147 142 true (.bin .eql (.t 146) (.c (.int .i64 0))),
 o0 148 (.pick (.t 142) (.t 147) (.c (.bool false))),
 o0 149 (.mv (.t 148)),
 o1 150 149 true (.mv (.t 5)),
 o1 151 149 true (.bin .eql (.t 150) (.c (.int .i64 1))),
 o0 152 (.pick (.t 149) (.t 151) (.c (.bool false))),
 o0 4 (.mv (.t 152))]) .ret))))))⟩
def x339L1 : XCode :=
 (.seq (.seq (.region [0, 3, 4, 14] [o0 7 (.mv (.t 4)),
 o0 8 (.mv (.t 0)),
 o0 9 (.len (.t 8)),
 o0 10 (.bin .lss (.t 7) (.t 9)),
 o0 11 (.mv (.t 10)),
 o1 12 11 true (.mv (.t 3)),
 o1 13 11 true (.bin .leq (.t 12) (.c (.int .i64 1048576))),
 o0 14 (.pick (.t 11) (.t 13) (.c (.bool false)))]) (.cond (.t 14) .skip (.exit 0))) (.seq (.block 1 (.region [0, 3, 4] [o0 17 (.mv (.t 3)),
 o0 18 (.mv (.t 0)),
 o0 19 (.mv (.t 4)),
 o0 20 (.idxA 5 (.t 18) (.t 19)),
 o0 21 (.load (some 5) (.t 20)),
 o0 22 (.call .view 338 [.t 21]),
 o0 23 (.bin .add (.t 17) (.t 22)),
 o0 3 (.mv (.t 23))])) (.region [0, 3, 4] [o0 15 (.mv (.t 4)),
 o0 16 (.bin .add (.t 15) (.c (.int .i64 1))),
 o0 4 (.mv (.t 16))])))
def x339 : XFun :=
 ⟨[.tmp 2],(.seq (.region [0] [o0 2 (.mv (.c (.int .i64 0)))]) (.seq (.region [0, 3] [o0 5 (.mv (.t 0)),
 o0 6 (.len (.t 5)),
 o0 3 (.mv (.t 6))]) (.seq (.seq (.region [0, 3, 4] [o0 4 (.mv (.c (.int .i64 0)))]) (.block 0 (.loop [0, 3, 4] x339L1))) (.seq (.region [2] [o0 24 (.mv (.t 3)),
 o0 2 (.mv (.t 24))]) .ret))))⟩
def x655L1 : XCode :=
 (.seq (.region [1, 2, 3, 8, 9, 10, 11] [o0 11 (.bin .lss (.t 10) (.t 9))]) (.seq (.cond (.t 11) .skip (.exit 0)) (.seq (.block 1 (.seq (.region [1, 2, 3, 6, 8, 9, 10] [o0 12 (.idxA 2 (.t 8) (.t 10)),
 o0 13 (.load (some 2) (.t 12)),
 o0 6 (.alloc [(.int .u8 0),(.int .i64 0)]),
 o2 (.store 2 (.t 6) (.t 13))]) (.seq (.region [1, 2, 3, 7, 8, 9, 10] [o0 14 (.load none (.t 1)),
 o0 15 (.load (some 2) (.t 6)),
 o0 16 (.call .share 651 [(.t 14),(.t 15)]),
 o0 7 (.mv (.t 16))]) (.seq (.region [1, 2, 3, 7, 8, 9, 10, 24] [o0 17 (.mv (.t 7)),
 o0 18 (.eqNil true 1 (.t 17)),
 o0 19 (.mv (.t 18)),
 o1 20 19 true (.load none (.t 2)),
 o1 21 19 true (.mv (.t 7)),
 o1 22 19 true (.lookup 3 [(.bool false)] false (.t 20) (.t 21) false),
 o1 23 19 true (.un .not (.t 22)),
 o0 24 (.pick (.t 19) (.t 23) (.c (.bool false)))]) (.cond (.t 24) (.seq (.region [1, 2, 3, 7, 8, 9, 10] [o0 25 (.load none (.t 2)),
 o0 26 (.mv (.t 7)),
 o2 (.mapSet 3 (.t 25) (.t 26) (.c (.bool true)))]) (.region [1, 2, 3, 8, 9, 10] [o0 27 (.load none (.t 3)),
 o0 28 (.mv (.t 7)),
 o0 29 (.buildSlice 1 [(.pointer none)] 1 [(0, 1,(.t 28))]),
 o0 30 (.append 1 8 (.t 27) (.t 29)),
 o2 (.store 1 (.t 3) (.t 30))])) .skip))))) (.region [1, 2, 3, 8, 9, 10] [o0 31 (.bin .add (.t 10) (.c (.int .i64 1))),
 o0 10 (.mv (.t 31))]))))
def x655 : XFun :=
 ⟨[],(.seq (.region [1, 2, 3, 8, 9, 10] [o0 8 (.mv (.t 0)),
 o0 9 (.len (.t 8)),
 o0 10 (.mv (.c (.int .i64 0)))]) (.block 0 (.loop [1, 2, 3, 8, 9, 10] x655L1)))⟩
def x651 : XFun :=
 ⟨[.tmp 4],(.seq (.region [0, 3] [o0 3 (.box 2 (.t 1)),
 o0 4 (.mv (.c (.pointer none)))]) (.seq (.seq (.region [0, 3, 36] [o0 5 (.fieldA 0 (.t 3)),
 o0 6 (.load none (.t 5)),
 o0 7 (.bin .lss (.t 6) (.c (.int .u8 3))),
 o0 8 (.mv (.t 7)),
 o1 9 8 false (.fieldA 0 (.t 3)),
 o1 10 8 false (.load none (.t 9)),
 o1 11 8 false (.bin .gtr (.t 10) (.c (.int .u8 7))),
 o0 12 (.pick (.t 8) (.c (.bool true)) (.t 11)),
 o0 13 (.mv (.t 12)),
 o1 14 13 false (.fieldA 1 (.t 3)),
 o1 15 13 false (.load none (.t 14)),
 o1 16 13 false (.bin .lss (.t 15) (.c (.int .i64 1))),
 o0 17 (.pick (.t 13) (.c (.bool true)) (.t 16)),
 o0 18 (.mv (.t 17)),
 o1 19 18 false (.fieldA 1 (.t 3)),
 o1 20 18 false (.load none (.t 19)),
 o1 21 18 false (.mv (.t 0)),
 o1 22 18 false (.len (.t 21)),
 o1 23 18 false (.bin .gtr (.t 20) (.t 22)),
 o0 24 (.pick (.t 18) (.c (.bool true)) (.t 23)),
 o0 25 (.mv (.t 24)),
 o1 26 25 false (.mv (.t 0)),
 o1 27 25 false (.fieldA 1 (.t 3)),
 o1 28 25 false (.load none (.t 27)),
 o1 29 25 false (.bin .sub (.t 28) (.c (.int .i64 1))),
 o1 30 25 false (.idxA 5 (.t 26) (.t 29)),
 o1 31 25 false (.fieldA 0 (.t 30)),
 o1 32 25 false (.load none (.t 31)),
 o1 33 25 false (.fieldA 0 (.t 3)),
 o1 34 25 false (.load none (.t 33)),
 o1 35 25 false (.bin .neq (.t 32) (.t 34)),
 o0 36 (.pick (.t 25) (.c (.bool true)) (.t 35))]) (.cond (.t 36) (.seq (.region [4] [o0 4 (.mv (.c (.pointer none)))]) .ret) .skip)) (.seq (.region [4] [o0 37 (.mv (.t 0)),
 o0 38 (.fieldA 1 (.t 3)),
 o0 39 (.load none (.t 38)),
 o0 40 (.bin .sub (.t 39) (.c (.int .i64 1))),
 o0 41 (.idxA 5 (.t 37) (.t 40)),
 o0 4 (.mv (.t 41))]) .ret)))⟩
def x755L1 : XCode :=
 (.seq (.region [0, 1, 7, 8, 9] [o0 9 (.bin .lss (.t 8) (.t 7))]) (.seq (.cond (.t 9) .skip (.exit 0)) (.seq (.block 1 (.seq (.region [0, 1, 5, 7, 8] [o0 10 (.mv (.t 8)),
 o0 5 (.mv (.t 10))]) (.seq (.region [0, 1, 5, 7, 8, 16] [o0 11 (.mv (.t 1)),
 o0 12 (.mv (.t 0)),
 o0 13 (.mv (.t 5)),
 o0 14 (.idxA 1 (.t 12) (.t 13)),
 o0 15 (.load none (.t 14)),
 o0 16 (.callV (.t 11) [.t 15])]) (.cond (.t 16) (.seq (.region [4] [o0 17 (.mv (.t 5)),
 o0 4 (.mv (.t 17))]) .ret) .skip)))) (.region [0, 1, 7, 8] [o0 18 (.bin .add (.t 8) (.c (.int .i64 1))),
 o0 8 (.mv (.t 18))]))))
def x755 : XFun :=
 ⟨[.tmp 4],(.seq (.region [0, 1] [o0 4 (.mv (.c (.int .i64 0)))]) (.seq (.seq (.region [0, 1, 7, 8] [o0 6 (.mv (.t 0)),
 o0 7 (.len (.t 6)),
 o0 8 (.mv (.c (.int .i64 0)))]) (.block 0 (.loop [0, 1, 7, 8] x755L1))) (.seq (.region [4] [o0 4 (.mv (.c (.int .i64 (-1))))]) .ret)))⟩
def x749 : XFun :=
 ⟨[.tmp 4],(.seq (.region [0, 1] [o0 4 (.mv (.c (.bool false)))]) (.seq (.region [4] [o0 5 (.mv (.t 0)),
 o0 6 (.mv (.t 1)),
 o0 7 (.call .share 759 [(.t 5),(.t 6)]),
 o0 8 (.bin .geq (.t 7) (.c (.int .i64 0))),
 o0 4 (.mv (.t 8))]) .ret))⟩
def x653 : XFun :=
 ⟨[.tmp 4],(.seq (.region [1, 2, 3] [o0 3 (.box 2 (.t 0)),
 o0 4 (.mv (.c (.bool false)))]) (.seq (.region [4] [o0 5 (.load none (.t 1)),
 o0 6 (.load (some 2) (.t 3)),
 o0 7 (.call .peek 656 [(.t 5),(.t 6)]),
 o0 8 (.un .not (.t 7)),
 o0 9 (.mv (.t 8)),
 o1 10 9 false (.fieldA 0 (.t 3)),
 o1 11 9 false (.load none (.t 10)),
 o1 12 9 false (.bin .eql (.t 11) (.c (.int .u8 7))),
 o1 13 9 false (.load none (.t 2)),
 o1 14 9 false (.nilCheck (.t 13)),
 o1 15 9 false (.fieldA 0 (.t 14)),
 o1 16 9 false (.load none (.t 15)),
 o1 17 9 false (.bin .eql (.t 16) (.c (.int .u8 6))),
 o1 18 9 false (.binB .neq (.t 12) (.t 17)),
 o0 19 (.pick (.t 9) (.c (.bool true)) (.t 18)),
 o0 4 (.mv (.t 19))]) .ret))⟩
def x650L1 : XCode :=
 (.seq (.seq (.region [0, 1, 5, 6, 13] [o0 10 (.mv (.t 6)),
 o0 11 (.mv (.t 1)),
 o0 12 (.len (.t 11)),
 o0 13 (.bin .lss (.t 10) (.t 12))]) (.cond (.t 13) .skip (.exit 0))) (.seq (.block 1 (.seq (.region [0, 1, 5, 6, 7] [o0 16 (.mv (.t 1)),
 o0 17 (.mv (.t 6)),
 o0 18 (.idxA 2 (.t 16) (.t 17)),
 o0 19 (.load (some 2) (.t 18)),
 o0 20 (.build [(.int .u8 0),(.int .i64 0),(.string .empty)] [(0, 2,(.t 19))]),
 o0 7 (.alloc [(.int .u8 0),(.int .i64 0),(.string .empty)]),
 o2 (.store 3 (.t 7) (.t 20))]) (.seq (.seq (.region [0, 1, 5, 6, 7, 8] [o0 21 (.mv (.t 0)),
 o0 22 (.mv (.t 1)),
 o0 23 (.mv (.t 6)),
 o0 24 (.idxA 2 (.t 22) (.t 23)),
 o0 25 (.load (some 2) (.t 24)),
 o0 26 (.call .share 651 [(.t 21),(.t 25)]),
 o0 8 (.mv (.t 26))]) (.seq (.region [0, 1, 5, 6, 7, 8, 36] [o0 27 (.mv (.t 1)),
 o0 28 (.mv (.t 6)),
 o0 29 (.idxA 2 (.t 27) (.t 28)),
 o0 30 (.fieldA 0 (.t 29)),
 o0 31 (.load none (.t 30)),
 o0 32 (.bin .eql (.t 31) (.c (.int .u8 3))),
 o0 33 (.mv (.t 32)),
 o1 34 33 true (.mv (.t 8)),
 o1 35 33 true (.eqNil true 1 (.t 34)),
 o0 36 (.pick (.t 33) (.t 35) (.c (.bool false)))]) (.cond (.t 36) (.region [0, 1, 5, 6, 7] [o0 37 (.build [(.int .u8 0),(.int .i64 0)] [(0, 1,(.c (.int .u8 3)))]),
 o0 38 (.mv (.t 8)),
 o0 39 (.nilCheck (.t 38)),
 o0 40 (.fieldA 1 (.t 39)),
 o0 41 (.load none (.t 40)),
 o0 42 (.build [(.int .u8 0),(.int .i64 0),(.string .empty)] [(0, 2,(.t 37)),(2, 1,(.t 41))]),
 o2 (.store 3 (.t 7) (.t 42))]) .skip))) (.region [0, 1, 5, 6] [o0 43 (.mv (.t 5)),
 o0 44 (.load (some 3) (.t 7)),
 o2 (.mapSet 57 (.t 43) (.t 44) (.c (.bool true)))])))) (.region [0, 1, 5, 6] [o0 14 (.mv (.t 6)),
 o0 15 (.bin .add (.t 14) (.c (.int .i64 2))),
 o0 6 (.mv (.t 15))])))
def x650 : XFun :=
 ⟨[.tmp 4],(.seq (.region [0, 1] [o0 4 (.mv (.c (.bool false)))]) (.seq (.region [0, 1, 5] [o0 9 (.makeMap none),
 o0 5 (.mv (.t 9))]) (.seq (.seq (.region [0, 1, 5, 6] [o0 6 (.mv (.c (.int .i64 0)))]) (.block 0 (.loop [0, 1, 5, 6] x650L1))) (.seq (.region [4] [o0 45 (.mv (.t 5)),
 o0 46 (.lenM (.t 45)),
 o0 47 (.mv (.t 1)),
 o0 48 (.len (.t 47)),
 o0 49 (.bin .quo (.t 48) (.c (.int .i64 2))),
 o0 50 (.bin .eql (.t 46) (.t 49)),
 o0 4 (.mv (.t 50))]) .ret))))⟩
def x338 : XFun :=
 ⟨[.tmp 2],(.seq (.region [1] [o0 1 (.box 5 (.t 0)),
 o0 2 (.mv (.c (.int .i64 0)))]) (.seq (.region [1, 3] [o0 4 (.fieldA 1 (.t 1)),
 o0 5 (.load none (.t 4)),
 o0 6 (.lenS (.t 5)),
 o0 7 (.bin .add (.c (.int .i64 1)) (.t 6)),
 o0 3 (.mv (.t 7))]) (.seq (.seq (.region [1, 3, 9] [o0 8 (.mv (.t 3)),
 o0 9 (.bin .leq (.t 8) (.c (.int .i64 1048576)))]) (.cond (.t 9) (.region [3] [o0 10 (.mv (.t 3)),
 o0 11 (.fieldA 2 (.t 1)),
 o0 12 (.load none (.t 11)),
 o0 13 (.call .view 380 [.t 12]),
 o0 14 (.bin .add (.t 10) (.t 13)),
 o0 3 (.mv (.t 14))]) .skip)) (.seq (.region [2] [o0 15 (.mv (.t 3)),
 o0 2 (.mv (.t 15))]) .ret))))⟩
def x759L1 : XCode :=
 (.seq (.region [0, 1, 7, 8, 9] [o0 9 (.bin .lss (.t 8) (.t 7))]) (.seq (.cond (.t 9) .skip (.exit 0)) (.seq (.block 1 (.seq (.region [0, 1, 5, 7, 8] [o0 10 (.mv (.t 8)),
 o0 5 (.mv (.t 10))]) (.seq (.region [0, 1, 5, 7, 8, 16] [o0 11 (.mv (.t 1)),
 o0 12 (.mv (.t 0)),
 o0 13 (.mv (.t 5)),
 o0 14 (.idxA 2 (.t 12) (.t 13)),
 o0 15 (.load (some 2) (.t 14)),
 o0 16 (.callV (.t 11) [.t 15])]) (.cond (.t 16) (.seq (.region [4] [o0 17 (.mv (.t 5)),
 o0 4 (.mv (.t 17))]) .ret) .skip)))) (.region [0, 1, 7, 8] [o0 18 (.bin .add (.t 8) (.c (.int .i64 1))),
 o0 8 (.mv (.t 18))]))))
def x759 : XFun :=
 ⟨[.tmp 4],(.seq (.region [0, 1] [o0 4 (.mv (.c (.int .i64 0)))]) (.seq (.seq (.region [0, 1, 7, 8] [o0 6 (.mv (.t 0)),
 o0 7 (.len (.t 6)),
 o0 8 (.mv (.c (.int .i64 0)))]) (.block 0 (.loop [0, 1, 7, 8] x759L1))) (.seq (.region [4] [o0 4 (.mv (.c (.int .i64 (-1))))]) .ret)))⟩
def x380 : XFun :=
 ⟨[.tmp 2],(.seq (.region [0] [o0 2 (.mv (.c (.int .i64 0)))]) (.seq (.region [2] [o0 3 (.mv (.t 0)),
 o0 4 (.len (.t 3)),
 o0 2 (.mv (.t 4))]) .ret))⟩
end Go.EX


namespace Go.EX
def x440 : XFun :=
 ⟨[.tmp 4],(.seq (.region [0, 3] [o0 3 (.box 2 (.t 1)),
 o0 4 (.mv (.c (.bool false)))]) (.seq (.seq (.region [0, 3, 12] [o0 7 (.call .view 444 []),
 o0 8 (.un .not (.t 7)),
 o0 9 (.mv (.t 8)),
 o1 10 9 false (.mv (.t 0)),
 o1 11 9 false (.call .view 445 [.t 10]),
 o0 12 (.pick (.t 9) (.c (.bool true)) (.t 11))]) (.cond (.t 12) (.seq (.region [4] [o0 13 (.call .view 444 []),
 o0 4 (.mv (.t 13))]) .ret) .skip)) (.seq (.region [5, 6] [o0 15 (.mv (.t 0)),
 o0 16 (.load (some 2) (.t 3)),
 o0 17 (.call .view 648 [(.t 15),(.t 16)]),
 o0 14 (.mv (.t 17)),
 o0 18 (.extract (.t 14) 0),
 o0 19 (.extract (.t 14) 1),
 o0 5 (.mv (.t 18)),
 o0 6 (.mv (.t 19))]) (.seq (.region [4] [o0 20 (.mv (.t 5)),
 o0 21 (.lenS (.t 20)),
 o0 22 (.bin .leq (.t 21) (.c (.int .i64 4096))),
 o0 23 (.mv (.t 22)),
 o1 24 23 true (.mv (.t 6)),
 o1 25 23 true (.mv (.t 24)),
 o1 26 25 false (.mv (.t 5)),
 o1 27 25 false (.bin .eql (.t 26) (.c (.string .empty))),
 o1 28 23 true (.pick (.t 25) (.c (.bool true)) (.t 27)),
 o0 29 (.pick (.t 23) (.t 28) (.c (.bool false))),
 o0 4 (.mv (.t 29))]) .ret))))⟩
def x648 : XFun :=
 ⟨[.tmp 4,.tmp 5],(.seq (.region [0, 3] [o0 3 (.box 2 (.t 1)),
 o0 4 (.mv (.c (.string .empty))),
 o0 5 (.mv (.c (.bool false)))]) (.seq (.region [3, 6] [o0 7 (.mv (.t 0)),
 o0 8 (.build [(.pointer none),(.slice none 0 0),(.slice none 0 0)] [(2, 1,(.t 7))]),
 o0 9 (.boxB 0 3 (.t 8)),
 o0 6 (.mv (.t 9))]) (.seq (.region [6] [o0 10 (.mv (.t 6)),
 o0 11 (.load (some 2) (.t 3)),
 o0 12 (.call .share 246 [(.t 10),(.t 11),(.c (.int .i64 0))])]) (.seq (.seq (.region [6, 14] [o0 13 (.mv (.t 6)),
 o0 14 (.call .peek 244 [.t 13])]) (.cond (.t 14) (.seq (.region [4, 5] [o0 4 (.mv (.c (.string .empty))),
 o0 5 (.mv (.c (.bool false)))]) .ret) .skip)) (.seq (.region [4, 5] [o0 15 (.mv (.t 6)),
 o0 16 (.nilCheck (.t 15)),
 o0 17 (.fieldA 0 (.t 16)),
 o0 18 (.call .share 670 [.t 17]),
 o0 4 (.mv (.t 18)),
 o0 5 (.mv (.c (.bool true)))]) .ret)))))⟩
def x444 : XFun :=
 ⟨[.tmp 0],(.seq (.region [] [o0 0 (.mv (.c (.bool false)))]) (.seq (.region [1] [o0 7 (.build [(.int .u8 0),(.string .empty),(.slice none 0 0),(.int .i64 0),(.int .i64 0)] [(0, 1,(.c (.int .u8 3))),(1, 1,(.c (.string ⟨#[104, 105]⟩)))]),
 o0 8 (.call .view 446 [(.c (.int .i64 1))]),
 o0 9 (.build [(.int .u8 0),(.int .i64 0)] [(0, 1,(.c (.int .u8 3))),(1, 1,(.c (.int .i64 1)))]),
 o0 10 (.buildSlice 2 [(.int .u8 0),(.int .i64 0)] 2 [(0, 2,(.t 8)),(2, 2,(.t 9))]),
 o0 11 (.build [(.int .u8 0),(.string .empty),(.slice none 0 0),(.int .i64 0),(.int .i64 0)] [(0, 1,(.c (.int .u8 4))),(2, 1,(.t 10)),(3, 1,(.c (.int .i64 4)))]),
 o0 12 (.build [(.int .u8 0),(.int .i64 0)] [(0, 1,(.c (.int .u8 3))),(1, 1,(.c (.int .i64 1)))]),
 o0 13 (.build [(.int .u8 0),(.int .i64 0)] [(0, 1,(.c (.int .u8 4))),(1, 1,(.c (.int .i64 2)))]),
 o0 14 (.buildSlice 2 [(.int .u8 0),(.int .i64 0)] 2 [(0, 2,(.t 12)),(2, 2,(.t 13))]),
 o0 15 (.build [(.int .u8 0),(.string .empty),(.slice none 0 0),(.int .i64 0),(.int .i64 0)] [(0, 1,(.c (.int .u8 5))),(2, 1,(.t 14)),(3, 1,(.c (.int .i64 8)))]),
 o0 16 (.build [(.int .u8 0),(.int .i64 0)] [(0, 1,(.c (.int .u8 4))),(1, 1,(.c (.int .i64 2)))]),
 o0 17 (.buildSlice 2 [(.int .u8 0),(.int .i64 0)] 1 [(0, 2,(.t 16))]),
 o0 18 (.build [(.int .u8 0),(.string .empty),(.slice none 0 0),(.int .i64 0),(.int .i64 0)] [(0, 1,(.c (.int .u8 7))),(2, 1,(.t 17))]),
 o0 19 (.build [(.int .u8 0),(.int .i64 0)] [(0, 1,(.c (.int .u8 7))),(1, 1,(.c (.int .i64 4)))]),
 o0 20 (.buildSlice 2 [(.int .u8 0),(.int .i64 0)] 1 [(0, 2,(.t 19))]),
 o0 21 (.build [(.int .u8 0),(.string .empty),(.slice none 0 0),(.int .i64 0),(.int .i64 0)] [(0, 1,(.c (.int .u8 6))),(4, 1,(.c (.int .i64 7))),(2, 1,(.t 20))]),
 o0 22 (.build [(.int .u8 0),(.int .i64 0)] [(0, 1,(.c (.int .u8 4))),(1, 1,(.c (.int .i64 6)))]),
 o0 23 (.buildSlice 2 [(.int .u8 0),(.int .i64 0)] 1 [(0, 2,(.t 22))]),
 o0 24 (.build [(.int .u8 0),(.string .empty),(.slice none 0 0),(.int .i64 0),(.int .i64 0)] [(0, 1,(.c (.int .u8 4))),(2, 1,(.t 23)),(3, 1,(.c (.int .i64 1)))]),
 o0 25 (.buildSlice 5 [(.int .u8 0),(.string .empty),(.slice none 0 0),(.int .i64 0),(.int .i64 0)] 6 [(0, 5,(.t 7)),(5, 5,(.t 11)),(10, 5,(.t 15)),(15, 5,(.t 18)),(20, 5,(.t 21)),(25, 5,(.t 24))]),
 o0 1 (.mv (.t 25))]) (.seq (.region [1, 2, 3] [o0 27 (.mv (.t 1)),
 o0 28 (.build [(.int .u8 0),(.int .i64 0)] [(0, 1,(.c (.int .u8 5))),(1, 1,(.c (.int .i64 3)))]),
 o0 29 (.call .view 648 [(.t 27),(.t 28)]),
 o0 26 (.mv (.t 29)),
 o0 30 (.extract (.t 26) 0),
 o0 31 (.extract (.t 26) 1),
 o0 2 (.mv (.t 30)),
 o0 3 (.mv (.t 31))]) (.seq (.region [1, 2, 3, 4, 5] [o0 33 (.mv (.t 1)),
 o0 34 (.build [(.int .u8 0),(.int .i64 0)] [(0, 1,(.c (.int .u8 4))),(1, 1,(.c (.int .i64 6)))]),
 o0 35 (.call .view 648 [(.t 33),(.t 34)]),
 o0 32 (.mv (.t 35)),
 o0 36 (.extract (.t 32) 0),
 o0 37 (.extract (.t 32) 1),
 o0 4 (.mv (.t 36)),
 o0 5 (.mv (.t 37))]) (.seq (.region [1, 2, 3, 4, 5, 6] [o0 38 (.build [(.int .u8 0),(.int .i64 0)] [(0, 1,(.c (.int .u8 6))),(1, 1,(.c (.int .i64 5)))]),
 o0 6 (.alloc [(.int .u8 0),(.int .i64 0)]),
 o2 (.store 2 (.t 6) (.t 38))]) (.seq (.region [0] [o0 39 (.mv (.t 3)),
 o0 40 (.mv (.t 39)),
 o1 41 40 true (.mv (.t 5)),
 o0 42 (.pick (.t 40) (.t 41) (.c (.bool false))),
 o0 43 (.mv (.t 42)),
 o1 44 43 true (.mv (.t 2)),
 o1 45 43 true (.bin .eql (.t 44) (.c (.string ⟨#[123, 104, 105, 58, 32, 91, 49, 44, 32, 104, 105, 93, 125]⟩))),
 o0 46 (.pick (.t 43) (.t 45) (.c (.bool false))),
 o0 47 (.mv (.t 46)),
 o1 48 47 true (.mv (.t 4)),
 o1 49 47 true (.bin .eql (.t 48) (.c (.string ⟨#[91, 91, 91, 91, 91, 91, 91, 91, 91, 46, 46, 93, 93, 93, 93, 93, 93, 93, 93, 93]⟩))),
 o0 50 (.pick (.t 47) (.t 49) (.c (.bool false))),
 o0 51 (.mv (.t 50)),
 o1 52 51 true (.mv (.t 1)),
 o1 53 51 true (.load (some 2) (.t 6)),
 o1 54 51 true (.call .share 646 [(.t 52),(.t 53)]),
 o0 55 (.pick (.t 51) (.t 54) (.c (.bool false))),
 o0 56 (.mv (.t 55)),
 o1 57 56 true (.mv (.t 1)),
 o1 58 56 true (.build [(.int .u8 0),(.int .i64 0)] [(0, 1,(.c (.int .u8 3))),(1, 1,(.c (.int .i64 9)))]),
 o1 59 56 true (.call .share 646 [(.t 57),(.t 58)]),
 o1 60 56 true (.un .not (.t 59)),
 o0 61 (.pick (.t 56) (.t 60) (.c (.bool false))),
 o0 62 (.mv (.t 61)),
 o1 63 62 true (.mv (.t 1)),
 o1 64 62 true (.load (some 2) (.t 6)),
 o1 65 62 true (.build [(.int .u8 0),(.int .i64 0)] [(0, 1,(.c (.int .u8 3))),(1, 1,(.c (.int .i64 1)))]),
 o1 66 62 true (.buildSlice 2 [(.int .u8 0),(.int .i64 0)] 2 [(0, 2,(.t 64)),(2, 2,(.t 65))]),
 o1 67 62 true (.call .share 649 [(.t 63),(.t 66)]),
 o1 68 62 true (.bin .eql (.t 67) (.c (.int .i64 22))),
 o0 69 (.pick (.t 62) (.t 68) (.c (.bool false))),
 o0 0 (.mv (.t 69))]) .ret))))))⟩
def x246 : XFun :=
 ⟨[],(.seq (.region [0, 2, 4] [o0 4 (.box 2 (.t 1))]) (.seq (.region [0, 2, 4, 6] [o0 7 (.mv (.t 0)),
 o0 8 (.nilCheck (.t 7)),
 o0 9 (.fieldA 2 (.t 8)),
 o0 10 (.load none (.t 9)),
 o0 11 (.load (some 2) (.t 4)),
 o0 12 (.call .view 651 [(.t 10),(.t 11)]),
 o0 6 (.mv (.t 12))]) (.seq (.region [0, 2, 4, 6, 14] [o0 13 (.fieldA 0 (.t 4)),
 o0 14 (.load none (.t 13))]) (.block 0 (.seq (.region [0, 2, 4, 6, 14, 64] [o0 65 (.bin .eql (.t 14) (.c (.int .u8 0))),
 o0 64 (.mv (.t 65))]) (.cond (.t 64) (.region [] [o0 66 (.mv (.t 0)),
 o0 67 (.nilCheck (.t 66)),
 o0 68 (.fieldA 0 (.t 67)),
 o0 69 (.call .share 673 [(.t 68),(.c (.string ⟨#[110, 105, 108]⟩))])]) (.seq (.region [0, 2, 4, 6, 14, 70] [o0 71 (.bin .eql (.t 14) (.c (.int .u8 1))),
 o0 70 (.mv (.t 71))]) (.cond (.t 70) (.lregion [] [o0 72 (.mv (.t 0)),
 o0 73 (.nilCheck (.t 72)),
 o0 74 (.fieldA 0 (.t 73)),
 o0 75 .litA,
 o2 (.litI 1 (.t 75) (.c (.bool true)) (.c (.string ⟨#[121, 101, 115]⟩))),
 o2 (.litI 1 (.t 75) (.c (.bool false)) (.c (.string ⟨#[110, 111]⟩))),
 o0 76 (.litM (.t 75)),
 o0 77 (.fieldA 1 (.t 4)),
 o0 78 (.load none (.t 77)),
 o0 79 (.bin .eql (.t 78) (.c (.int .i64 1))),
 o0 80 (.litL 1 [(.string .empty)] (.t 76) (.t 79) (.string ⟨#[121, 101, 115]⟩) (.string ⟨#[110, 111]⟩)),
 o0 81 (.call .share 673 [(.t 74),(.t 80)])]) (.seq (.region [0, 2, 4, 6, 82] [o0 83 (.bin .eql (.t 14) (.c (.int .u8 2))),
 o0 82 (.mv (.t 83))]) (.cond (.t 82) (.region [] [o0 84 (.mv (.t 0)),
 o0 85 (.nilCheck (.t 84)),
 o0 86 (.fieldA 0 (.t 85)),
 o0 87 (.fieldA 1 (.t 4)),
 o0 88 (.load none (.t 87)),
 o0 89 (.call .view 785 [(.t 88),(.c (.int .i64 10))]),
 o0 90 (.call .share 673 [(.t 86),(.t 89)])]) (.block 1 (.seq (.region [0, 2, 4, 6, 19] [o0 20 (.mv (.t 6)),
 o0 21 (.eqNil false 1 (.t 20)),
 o0 22 (.mv (.t 21)),
 o1 23 22 false (.fieldA 0 (.t 4)),
 o1 24 22 false (.load none (.t 23)),
 o1 25 22 false (.bin .eql (.t 24) (.c (.int .u8 7))),
 o0 26 (.pick (.t 22) (.c (.bool true)) (.t 25)),
 o0 19 (.mv (.t 26))]) (.cond (.t 19) (.region [] [o0 27 (.mv (.t 0)),
 o0 28 (.nilCheck (.t 27)),
 o0 29 (.fieldA 0 (.t 28)),
 o0 30 (.call .share 673 [(.t 29),(.c (.string ⟨#[63]⟩))])]) (.seq (.region [0, 2, 4, 6, 31] [o0 32 (.fieldA 0 (.t 4)),
 o0 33 (.load none (.t 32)),
 o0 34 (.bin .eql (.t 33) (.c (.int .u8 3))),
 o0 31 (.mv (.t 34))]) (.cond (.t 31) (.region [] [o0 35 (.mv (.t 0)),
 o0 36 (.nilCheck (.t 35)),
 o0 37 (.fieldA 0 (.t 36)),
 o0 38 (.mv (.t 6)),
 o0 39 (.nilCheck (.t 38)),
 o0 40 (.fieldA 1 (.t 39)),
 o0 41 (.load none (.t 40)),
 o0 42 (.call .share 673 [(.t 37),(.t 41)])]) (.seq (.region [0, 2, 6, 43] [o0 44 (.fieldA 0 (.t 4)),
 o0 45 (.load none (.t 44)),
 o0 46 (.bin .eql (.t 45) (.c (.int .u8 6))),
 o0 43 (.mv (.t 46))]) (.cond (.t 43) (.region [] [o0 47 (.mv (.t 0)),
 o0 48 (.nilCheck (.t 47)),
 o0 49 (.fieldA 0 (.t 48)),
 o0 50 (.mv (.t 6)),
 o0 51 (.nilCheck (.t 50)),
 o0 52 (.fieldA 4 (.t 51)),
 o0 53 (.load none (.t 52)),
 o0 54 (.call .view 786 [.t 53]),
 o0 55 (.bin .add (.c (.string ⟨#[102, 110, 32]⟩)) (.t 54)),
 o0 56 (.call .share 673 [(.t 49),(.t 55)])]) (.seq (.region [0, 2, 6, 57] [o0 58 (.mv (.t 2)),
 o0 59 (.bin .gtr (.t 58) (.c (.int .i64 8))),
 o0 57 (.mv (.t 59))]) (.cond (.t 57) (.region [] [o0 60 (.mv (.t 0)),
 o0 61 (.nilCheck (.t 60)),
 o0 62 (.fieldA 0 (.t 61)),
 o0 63 (.call .share 673 [(.t 62),(.c (.string ⟨#[46, 46]⟩))])]) (.region [] [o0 15 (.mv (.t 0)),
 o0 16 (.mv (.t 6)),
 o0 17 (.mv (.t 2)),
 o0 18 (.call .share 245 [(.t 15),(.t 16),(.t 17)])]))))))))))))))))))))⟩
def x244 : XFun :=
 ⟨[.tmp 2],(.seq (.region [0] [o0 2 (.mv (.c (.bool false)))]) (.seq (.region [2] [o0 3 (.mv (.t 0)),
 o0 4 (.nilCheck (.t 3)),
 o0 5 (.fieldA 0 (.t 4)),
 o0 6 (.call .peek 669 [.t 5]),
 o0 7 (.bin .gtr (.t 6) (.c (.int .i64 4096))),
 o0 2 (.mv (.t 7))]) .ret))⟩
def x446 : XFun :=
 ⟨[.cell 2 (some 2)],(.seq (.region [0, 2] [o0 2 (.alloc [(.int .u8 0),(.int .i64 0)])]) (.seq (.region [2] [o0 3 (.mv (.t 0)),
 o0 4 (.build [(.int .u8 0),(.int .i64 0)] [(0, 1,(.c (.int .u8 2))),(1, 1,(.t 3))]),
 o2 (.store 2 (.t 2) (.t 4))]) .ret))⟩
def x448 : XFun :=
 ⟨[.cell 3 (some 2)],(.seq (.region [1, 2, 3] [o0 2 (.box 2 (.t 0)),
 o0 3 (.alloc [(.int .u8 0),(.int .i64 0)])]) (.seq (.seq (.region [1, 2, 3, 17] [o0 4 (.fieldA 0 (.t 2)),
 o0 5 (.load none (.t 4)),
 o0 6 (.bin .geq (.t 5) (.c (.int .u8 3))),
 o0 7 (.mv (.t 6)),
 o1 8 7 true (.fieldA 1 (.t 2)),
 o1 9 7 true (.load none (.t 8)),
 o1 10 7 true (.bin .geq (.t 9) (.c (.int .i64 1))),
 o0 11 (.pick (.t 7) (.t 10) (.c (.bool false))),
 o0 12 (.mv (.t 11)),
 o1 13 12 true (.fieldA 1 (.t 2)),
 o1 14 12 true (.load none (.t 13)),
 o1 15 12 true (.load none (.t 1)),
 o1 16 12 true (.bin .leq (.t 14) (.t 15)),
 o0 17 (.pick (.t 12) (.t 16) (.c (.bool false)))]) (.cond (.t 17) (.region [2, 3] [o0 18 (.load none (.t 1)),
 o0 19 (.bin .add (.t 18) (.c (.int .i64 1))),
 o0 20 (.fieldA 1 (.t 2)),
 o0 21 (.load none (.t 20)),
 o0 22 (.bin .sub (.t 19) (.t 21)),
 o0 23 (.fieldA 1 (.t 2)),
 o2 (.store 1 (.t 23) (.t 22))]) .skip)) (.seq (.region [3] [o0 24 (.load (some 2) (.t 2)),
 o2 (.store 2 (.t 3) (.t 24))]) .ret)))⟩
def x673 : XFun :=
 ⟨[.tmp 4,.tmp 5],(.seq (.region [0, 1] [o0 4 (.mv (.c (.int .i64 0))),
 o0 5 (.mv (.c .nilIface))]) (.seq (.region [0, 1] [o0 6 (.mv (.t 0)),
 o0 7 (.call .share 674 [.t 6])]) (.seq (.region [1] [o0 8 (.mv (.t 0)),
 o0 9 (.mv (.t 0)),
 o0 10 (.nilCheck (.t 9)),
 o0 11 (.fieldA 1 (.t 10)),
 o0 12 (.load none (.t 11)),
 o0 13 (.mv (.t 1)),
 o0 14 (.appendS (.t 12) (.t 13)),
 o0 15 (.nilCheck (.t 8)),
 o0 16 (.fieldA 1 (.t 15)),
 o2 (.store 1 (.t 16) (.t 14))]) (.seq (.region [4, 5] [o0 17 (.mv (.t 1)),
 o0 18 (.lenS (.t 17)),
 o0 4 (.mv (.t 18)),
 o0 5 (.mv (.c .nilIface))]) .ret))))⟩
def x785 : XFun :=
 ⟨[.tmp 4],(.seq (.region [0, 1] [o0 4 (.mv (.c (.string .empty)))]) (.seq (.region [4] [o0 5 (.mv (.t 0)),
 o0 6 (.mv (.t 1)),
 o0 7 (.call .view 708 [(.t 5),(.t 6)]),
 o0 4 (.mv (.t 7))]) .ret))⟩
def x786 : XFun :=
 ⟨[.tmp 2],(.seq (.region [0] [o0 2 (.mv (.c (.string .empty)))]) (.seq (.region [2] [o0 3 (.mv (.t 0)),
 o0 4 (.call .view 709 [.t 3]),
 o0 2 (.mv (.t 4))]) .ret))⟩
def x245L1 : XCode :=
 (.seq (.region [0, 1, 2, 7, 23, 24, 25, 26] [o0 26 (.bin .lss (.t 25) (.t 24))]) (.seq (.cond (.t 26) .skip (.exit 0)) (.seq (.block 1 (.seq (.region [0, 1, 2, 7, 8, 9, 23, 24, 25] [o0 27 (.mv (.t 25)),
 o0 28 (.idxA 2 (.t 23) (.t 25)),
 o0 29 (.load (some 2) (.t 28)),
 o0 9 (.alloc [(.int .u8 0),(.int .i64 0)]),
 o0 8 (.mv (.t 27)),
 o2 (.store 2 (.t 9) (.t 29))]) (.seq (.block 2 (.seq (.region [0, 1, 2, 7, 8, 9, 23, 24, 25, 30] [o0 31 (.mv (.t 0)),
 o0 32 (.call .peek 244 [.t 31]),
 o0 30 (.mv (.t 32))]) (.cond (.t 30) .ret (.seq (.region [0, 1, 2, 7, 8, 9, 23, 24, 25, 33] [o0 34 (.mv (.t 1)),
 o0 35 (.nilCheck (.t 34)),
 o0 36 (.fieldA 0 (.t 35)),
 o0 37 (.load none (.t 36)),
 o0 38 (.bin .eql (.t 37) (.c (.int .u8 5))),
 o0 39 (.mv (.t 38)),
 o1 40 39 true (.mv (.t 8)),
 o1 41 39 true (.bin .rem (.t 40) (.c (.int .i64 2))),
 o1 42 39 true (.bin .eql (.t 41) (.c (.int .i64 1))),
 o0 43 (.pick (.t 39) (.t 42) (.c (.bool false))),
 o0 33 (.mv (.t 43))]) (.cond (.t 33) (.region [0, 1, 2, 7, 9, 23, 24, 25] [o0 44 (.mv (.t 0)),
 o0 45 (.nilCheck (.t 44)),
 o0 46 (.fieldA 0 (.t 45)),
 o0 47 (.call .share 673 [(.t 46),(.c (.string ⟨#[58, 32]⟩))])]) (.seq (.region [0, 1, 2, 7, 9, 23, 24, 25, 48] [o0 49 (.mv (.t 8)),
 o0 50 (.bin .gtr (.t 49) (.c (.int .i64 0))),
 o0 48 (.mv (.t 50))]) (.cond (.t 48) (.region [0, 1, 2, 7, 9, 23, 24, 25] [o0 51 (.mv (.t 0)),
 o0 52 (.nilCheck (.t 51)),
 o0 53 (.fieldA 0 (.t 52)),
 o0 54 (.call .share 673 [(.t 53),(.c (.string ⟨#[44, 32]⟩))])]) .skip))))))) (.region [0, 1, 2, 7, 23, 24, 25] [o0 55 (.mv (.t 0)),
 o0 56 (.load (some 2) (.t 9)),
 o0 57 (.mv (.t 2)),
 o0 58 (.bin .add (.t 57) (.c (.int .i64 1))),
 o0 59 (.call .share 246 [(.t 55),(.t 56),(.t 58)])])))) (.region [0, 1, 2, 7, 23, 24, 25] [o0 60 (.bin .add (.t 25) (.c (.int .i64 1))),
 o0 25 (.mv (.t 60))]))))
def x245 : XFun :=
 ⟨[],(.seq (.region [0, 1, 2, 6, 7] [o0 6 (.mv (.c (.string ⟨#[91]⟩))),
 o0 7 (.mv (.c (.string ⟨#[93]⟩)))]) (.seq (.seq (.region [0, 1, 2, 6, 7, 14] [o0 10 (.mv (.t 1)),
 o0 11 (.nilCheck (.t 10)),
 o0 12 (.fieldA 0 (.t 11)),
 o0 13 (.load none (.t 12)),
 o0 14 (.bin .eql (.t 13) (.c (.int .u8 5)))]) (.cond (.t 14) (.region [0, 1, 2, 6, 7] [o0 6 (.mv (.c (.string ⟨#[123]⟩))),
 o0 7 (.mv (.c (.string ⟨#[125]⟩)))]) .skip)) (.seq (.region [0, 1, 2, 7] [o0 15 (.mv (.t 0)),
 o0 16 (.nilCheck (.t 15)),
 o0 17 (.fieldA 0 (.t 16)),
 o0 18 (.mv (.t 6)),
 o0 19 (.call .share 673 [(.t 17),(.t 18)])]) (.seq (.seq (.region [0, 1, 2, 7, 23, 24, 25] [o0 20 (.mv (.t 1)),
 o0 21 (.nilCheck (.t 20)),
 o0 22 (.fieldA 2 (.t 21)),
 o0 23 (.load none (.t 22)),
 o0 24 (.len (.t 23)),
 o0 25 (.mv (.c (.int .i64 0)))]) (.block 0 (.loop [0, 1, 2, 7, 23, 24, 25] x245L1))) (.seq (.seq (.region [0, 7, 74] [o0 61 (.mv (.t 1)),
 o0 62 (.nilCheck (.t 61)),
 o0 63 (.fieldA 0 (.t 62)),
 o0 64 (.load none (.t 63)),
 o0 65 (.bin .eql (.t 64) (.c (.int .u8 5))),
 o0 66 (.mv (.t 65)),
 o1 67 66 true (.mv (.t 1)),
 o1 68 66 true (.nilCheck (.t 67)),
 o1 69 66 true (.fieldA 2 (.t 68)),
 o1 70 66 true (.load none (.t 69)),
 o1 71 66 true (.len (.t 70)),
 o1 72 66 true (.bin .rem (.t 71) (.c (.int .i64 2))),
 o1 73 66 true (.bin .eql (.t 72) (.c (.int .i64 1))),
 o0 74 (.pick (.t 66) (.t 73) (.c (.bool false)))]) (.cond (.t 74) (.region [0, 7] [o0 75 (.mv (.t 0)),
 o0 76 (.nilCheck (.t 75)),
 o0 77 (.fieldA 0 (.t 76)),
 o0 78 (.call .share 673 [(.t 77),(.c (.string ⟨#[58, 32, 110, 105, 108]⟩))])]) .skip)) (.region [] [o0 79 (.mv (.t 0)),
 o0 80 (.nilCheck (.t 79)),
 o0 81 (.fieldA 0 (.t 80)),
 o0 82 (.mv (.t 7)),
 o0 83 (.call .share 673 [(.t 81),(.t 82)])]))))))⟩
def x669 : XFun :=
 ⟨[.tmp 2],(.seq (.region [0] [o0 2 (.mv (.c (.int .i64 0)))]) (.seq (.region [2] [o0 3 (.mv (.t 0)),
 o0 4 (.nilCheck (.t 3)),
 o0 5 (.fieldA 1 (.t 4)),
 o0 6 (.load none (.t 5)),
 o0 7 (.len (.t 6)),
 o0 2 (.mv (.t 7))]) .ret))⟩
def x709 : XFun :=
 ⟨[.tmp 2],(.seq (.region [0] [o0 2 (.mv (.c (.string .empty)))]) (.seq (.region [2] [o0 3 (.mv (.t 0)),
 o0 4 (.call .view 708 [(.t 3),(.c (.int .i64 10))]),
 o0 2 (.mv (.t 4))]) .ret))⟩
end Go.EX


set_option linter.unusedVariables false
set_option linter.unusedSimpArgs false
namespace Go.EX
attribute [simp] List.range_succ funOut zcq zco zcn XO.unlit XOp.unlit zcp zck zcl zcr zcj blockOut andThen exOps exOne exOp Env.ev Env.get Env.keep enter AV.cells fresh loadAt getCells getCellsI valBin boolBin intBin shiftBin strBin valUn intOf bndOf bounds
 storeAt imms leave resOf wrapRes order reach Mem.refs AObj.refs AV.refs AV.refs.refsL Mem.pickAll AObj.ren AV.ren AV.ren.renL place fillAll mkObj imZ sameCells St.tidy Env.roots Env.ren AV.plain1 AV.plain2 AV.plain AV.own1 AV.own2 AV.own IV.plain AObj.own AObj.live AV.isImm exView exOwn exShare shareOk AObj.isFix exPeek exLook frz frz.frz1 frzV AObj.moved AObj.orMoved shareAt St.scrub isKeyAV zeroAV
@[simp] theorem lenOf_nil : lenOf (.imm (.val (.slice none 0 0))) = some 0 := rfl
@[simp] theorem lenOf_slice (row : List IV) (off len : Nat) (cap : Option Nat) : lenOf (.imm (.slice row off len cap)) = some len := rfl
@[simp] theorem lenOf_osl (id off sz len : Nat) (cap : Option Nat) : lenOf (.osl id off sz len cap) = some len := rfl
@[simp] theorem capOf_slice (row : List IV) (off len : Nat) (cap : Option Nat) : capOf (.imm (.slice row off len cap)) = cap := rfl
@[simp] theorem capOf_osl (id off sz len : Nat) (cap : Option Nat) : capOf (.osl id off sz len cap) = cap := rfl
@[simp] theorem isNil_slice (row : List IV) (off len : Nat) (cap : Option Nat) : isNil (.imm (.slice row off len cap)) = some false := rfl
@[simp] theorem isNil_ptr (row : List IV) (off : Nat) : isNil (.imm (.ptr row off)) = some false := rfl
@[simp] theorem isNil_osl (id off sz len : Nat) (cap : Option Nat) : isNil (.osl id off sz len cap) = some false := rfl
@[simp] theorem isNil_optr (id off : Nat) : isNil (.optr id off) = some false := rfl
@[simp] theorem isNil_omap (id : Nat) : isNil (.omap id) = some false := rfl
@[simp] theorem isNil_pnone : isNil (.imm (.val (.pointer none))) = some true := rfl
@[simp] theorem isNilK_snone : isNilK 0 (.imm (.val (.slice none 0 0))) = some true := rfl
@[simp] theorem isNilK_slice (row : List IV) (off len : Nat) (cap : Option Nat) : isNilK 0 (.imm (.slice row off len cap)) = some false := rfl
@[simp] theorem isNilK_osl (id off sz len : Nat) (cap : Option Nat) : isNilK 0 (.osl id off sz len cap) = some false := rfl
@[simp] theorem isNilK_pnone : isNilK 1 (.imm (.val (.pointer none))) = some true := rfl
@[simp] theorem isNilK_ptr (row : List IV) (off : Nat) : isNilK 1 (.imm (.ptr row off)) = some false := rfl
@[simp] theorem isNilK_optr (id off : Nat) : isNilK 1 (.optr id off) = some false := rfl
@[simp] theorem int_beq (a b : Int) : (a == b) = decide (a = b) := by by_cases h : a = b <;> simp [h]
theorem zba {a b : ByteArray} (h : a.toList = b.toList) : a = b := by
 have e : ∀ c : ByteArray, c.toList = c.data.toList := ByteArray.toList_eq
 rw [e, e] at h
 cases a; cases b
 simp at h
 exact congrArg ByteArray.mk h
@[simp] theorem bytes_beq (a b : ByteArray) : (a.toList == b.toList) = decide (a = b) := by
 by_cases h : a = b
 ·subst h; simp
 ·have : a.toList ≠ b.toList := fun e => h (zba e)
  simp [h, this]
@[simp] theorem cut_zero {β : Type} (l : List β) : cut l 0 0 = some [] := by simp [cut]
@[simp] theorem cut_cons_zero {β : Type} (x : β) (l : List β) (n : Nat) : cut (x :: l) 0 (n + 1) = (cut l 0 n).map (x :: ·) := by
 simp only [cut, List.drop_zero, List.take_succ_cons, List.length_cons]
 by_cases h : (l.take n).length = n
 ·rw [if_pos h, if_pos (by omega)]; rfl
 ·rw [if_neg h, if_neg (by omega)]; rfl
@[simp] theorem cut_cons_succ {β : Type} (x : β) (l : List β) (o n : Nat) : cut (x :: l) (o + 1) n = cut l o n := by simp [cut]
@[simp] theorem setAll_nil {β : Type} (l : List β) (o : Nat) : setAll l o [] = l := rfl
@[simp] theorem setAll_cons_succ {β : Type} (x : β) : ∀ (ys l : List β) (o : Nat), setAll (x :: l) (o + 1) ys = x :: setAll l o ys
 | [], l, o => rfl
 | y :: ys, l, o => by rw [setAll, List.set_cons_succ, setAll_cons_succ x ys]; rfl
@[simp] theorem setAll_cons_zero {β : Type} (x y : β) (l ys : List β) : setAll (x :: l) 0 (y :: ys) = y :: setAll l 0 ys := by
 rw [setAll, List.set_cons_zero, setAll_cons_succ]
@[simp] theorem imms_imm : ∀ (l : List IV), imms (l.map .imm) = some l
 | [] => rfl
 | x :: l => by simp [imms, imms_imm l]
@[simp] theorem copies_0 {β : Type} (l : List β) : copies 0 l = [] := rfl
@[simp] theorem copies_1 {β : Type} (l : List β) : copies 1 l = l := by simp [copies]
@[simp] theorem copies_2 {β : Type} (l : List β) : copies 2 l = l ++ l := by simp [copies]
@[simp] theorem copies_3 {β : Type} (l : List β) : copies 3 l = l ++ (l ++ l) := by simp [copies]
@[simp] theorem copies_4 {β : Type} (l : List β) : copies 4 l = l ++ (l ++ (l ++ l)) := by simp [copies]
def Ty.row {α : Type} (t : Ty α) (xs : List α) : List IV := xs.flatMap t.enc
abbrev nilS : AV := .imm (.val (.slice none 0 0))
abbrev int64 (n : Int) : AV := .imm (.val (.int .i64 n))
abbrev avb (b : Bool) : AV := .imm (.val (.bool b))
theorem zho {code : Nat → Option XFun} {ext : Calls'} {keep : List Nat} {b : XCode} (I : Nat → St → Prop) (Q : XExit → St → Prop)
  (h : ∀ n s, I n s → ∃ e s', den code ext b (s.tidy keep) = some (e, s') ∧ ((e = .normal ∧ ∃ m, m < n ∧ I m s') ∨ (e ≠ .normal ∧ Q e s'))) : ∀ n s, I n s → ∃ e s', den code ext (.loop keep b) s = some (e, s') ∧ e ≠ .normal ∧ Q e s' := by
 intro n
 induction n using Nat.strongRecOn with
 | ind n ih =>
  intro s hs
  obtain ⟨e, s', h1, h2⟩ := h n s hs
  rw [zcm, h1]
  rcases h2 with ⟨rfl, m, hm, hI⟩ | ⟨hne, hq⟩
  ·exact ih m hm s' hI
  ·refine ⟨e, s', ?_, hne, hq⟩
   cases e with
   | normal => exact absurd rfl hne
   | exit id => rfl
   | ret => rfl
theorem wrapI64 {x : Int} (h1 : -9223372036854775808 ≤ x) (h2 : x ≤ 9223372036854775807) : IntKind.wrap .i64 x = x := by
 simp only [IntKind.wrap, IntKind.signed, IntKind.bits]
 simp
 omega
theorem wfI64 {n : Int} : (tInt .i64).wf n ↔ -9223372036854775808 ≤ n ∧ n ≤ 9223372036854775807 := by
 simp [tInt, Lit.wf, IntKind.min, IntKind.max, IntKind.signed, IntKind.bits]
section
variable {α : Type} {t : Ty α} {iv : IV} {xs : List α}
theorem zlu (h : Reads t iv xs) : lenOf (.imm iv) = some xs.length := by
 obtain ⟨_, _, ⟨rfl, rfl⟩ | ⟨row, off, cap, rfl, _⟩⟩ := h
 ·rfl
 ·rfl
theorem zch {β : Type} {l : List β} {o n : Nat} {r : List β} (h : cut l o n = some r) : r = (l.drop o).take n ∧ r.length = n := by
 unfold cut at h
 dsimp only at h
 split at h
 ·rename_i h1; cases h; exact ⟨rfl, h1⟩
 ·cases h
theorem cut_mk {β : Type} {l : List β} {o n : Nat} {r : List β} (h : (l.drop o).take n = r) (hl : r.length = n) : cut l o n = some r := by
 unfold cut
 dsimp only
 rw [h, if_pos hl]
theorem zcb {β : Type} {l : List β} {o n : Nat} {r : List β} (h : cut l o n = some r) {a b : Nat} (hab : a + b ≤ n) : cut l (o + a) b = cut r a b := by
 obtain ⟨rfl, hl⟩ := zch h
 unfold cut
 dsimp only
 rw [List.drop_take, List.drop_drop, List.take_take]
 have : min b (n - a) = b := by omega
 rw [this]
theorem zer (h0 : ∀ x, (t.enc x).length = t.sz) : ∀ (xs : List α) (i k : Nat), i + k ≤ xs.length → cut (xs.flatMap t.enc) (i * t.sz) (k * t.sz) = some (((xs.drop i).take k).flatMap t.enc) := by
 intro xs i k hk
 refine cut_mk ?_ ?_
 ·have hdrop : ∀ (i : Nat) (l : List α), (l.flatMap t.enc).drop (i * t.sz) = (l.drop i).flatMap t.enc := by
   intro i
   induction i with
   | zero => intro l; simp
   | succ i ih =>
    intro l
    cases l with
    | nil => simp
    | cons x l =>
     rw [List.flatMap_cons, Nat.add_mul, Nat.one_mul, Nat.add_comm, List.drop_append]
     have hx := h0 x
     rw [List.drop_eq_nil_of_le (by omega)]
     have : t.sz + i * t.sz - (t.enc x).length = i * t.sz := by omega
     rw [this, ih]; simp
  have htake : ∀ (k : Nat) (l : List α), (l.flatMap t.enc).take (k * t.sz) = (l.take k).flatMap t.enc := by
   intro k
   induction k with
   | zero => intro l; simp
   | succ i ih =>
    intro l
    cases l with
    | nil => simp
    | cons x l =>
     rw [List.flatMap_cons, Nat.add_mul, Nat.one_mul, Nat.add_comm, List.take_append]
     have hx := h0 x
     rw [List.take_of_length_le (by omega)]
     have : t.sz + i * t.sz - (t.enc x).length = i * t.sz := by omega
     rw [this, ih]; simp
  rw [hdrop, htake]
 ·rw [zet _ _ h0]
  simp only [List.length_take, List.length_drop]
  congr 1
  omega
theorem zms (t : Ty α) (xs : List α) : (t.row xs).length = xs.length * t.sz := zet _ _ t.len xs
theorem zmv (t : Ty α) (xs : List α) (x : α) : t.row xs ++ t.enc x = t.row (xs ++ [x]) := by simp [Ty.row]
theorem zcg (t : Ty α) (xs : List α) : cut (t.row xs) 0 (xs.length * t.sz) = some (t.row xs) := zca _ (zms t xs)
theorem zlv (h : Reads t iv xs) {i : Nat} {x : α} (hx : xs[i]? = some x) : ∃ row off cap, iv = .slice row off xs.length cap ∧ (∀ c, cap = some c → xs.length ≤ c) ∧ cut row off (xs.length * t.sz) = some (xs.flatMap t.enc) ∧
  cut row (off + i * t.sz) t.sz = some (t.enc x) := by
 obtain ⟨_, _, ⟨rfl, rfl⟩ | ⟨row, off, cap, rfl, hc, hcut⟩⟩ := h
 ·simp at hx
 ·refine ⟨row, off, cap, rfl, hc, hcut, ?_⟩
  have hi := (List.getElem?_eq_some_iff.1 hx)
  obtain ⟨hi, hxi⟩ := hi
  have : i * t.sz + t.sz ≤ xs.length * t.sz := by
   rw [← Nat.succ_mul]; exact Nat.mul_le_mul_right _ hi
  rw [zcb hcut this]
  have := zer t.len xs i 1 hi
  rw [Nat.one_mul] at this
  rw [this]
  congr 1
  rw [List.drop_eq_getElem_cons hi, hxi]
  simp
theorem zlw (t : Ty α) (xs : List α) {cap : Option Nat} (hw : ∀ x ∈ xs, t.wf x) (hl : xs.length ≤ 140737488355328) (hc : ∀ c, cap = some c → xs.length ≤ c) : Reads t (.slice (t.row xs) 0 xs.length cap) xs :=
 ⟨hw, hl, .inr ⟨_, 0, cap, rfl, hc, zca _ (zms t xs)⟩⟩
end
end Go.EX


set_option linter.unusedVariables false
set_option linter.unusedSimpArgs false
namespace Go.EX
structure Val where
 k : Int
 n : Int
 deriving DecidableEq
def tVal : Ty Val := ⟨2, true, fun v => [.val (.int .u8 v.k), .val (.int .i64 v.n)], fun v => (tInt .u8).wf v.k ∧ (tInt .i64).wf v.n, fun _ => rfl⟩
structure Obj where
 k : Int
 s : ByteArray
 l : Sl tVal
 room : Int
 fn : Int
def tObj : Ty Obj := ⟨5, true, fun o => [.val (.int .u8 o.k), .val (.string o.s), o.l.iv, .val (.int .i64 o.room), .val (.int .i64 o.fn)],
 fun o => (tInt .u8).wf o.k ∧ tStr.wf o.s ∧ (tInt .i64).wf o.room ∧ (tInt .i64).wf o.fn, fun _ => rfl⟩
end Go.EX


set_option linter.unusedVariables false
set_option linter.unusedSimpArgs false
namespace Go.EX
def leadsOf (S : List Obj) (v : Val) : Option Nat :=
 if v.k < 3 then none else if 7 < v.k then none else if v.n < 1 then none else if (S.length : Int) < v.n then none else
 match S[(v.n - 1).toNat]? with
 | some o => if o.k = v.k then some (v.n - 1).toNat else none
 | none => none
theorem zg7 {S : List Obj} {v : Val} {k : Nat} (h : leadsOf S v = some k) : k < S.length ∧ (k : Int) = v.n - 1 ∧ 3 ≤ v.k ∧ v.k ≤ 7 ∧ ∃ o, S[k]? = some o ∧ o.k = v.k := by
 unfold leadsOf at h
 split at h
 ·cases h
 split at h
 ·cases h
 split at h
 ·cases h
 split at h
 ·cases h
 split at h
 ·rename_i o ho
  split at h
  ·rename_i hk
   cases h
   have := (List.getElem?_eq_some_iff.1 ho).1
   exact ⟨this, by omega, by omega, by omega, o, ho, hk⟩
  ·cases h
 ·cases h
inductive Reach (S : List Obj) (roots : List Val) : Nat → Prop
 | root {v : Val} {j : Nat} (hv : v ∈ roots) (h : leadsOf S v = some j) : Reach S roots j
 | step {k j : Nat} {o : Obj} {v : Val} (hk : Reach S roots k) (ho : S[k]? = some o) (hv : v ∈ o.l.xs) (h : leadsOf S v = some j) : Reach S roots j
theorem Reach.lt {S : List Obj} {roots : List Val} {k : Nat} (h : Reach S roots k) : k < S.length := by
 cases h with
 | root _ h => exact (zg7 h).1
 | step _ _ _ h => exact (zg7 h).1
structure Marks (S : List Obj) (roots : List Val) (F : List Bool) (T : List Val) : Prop where
 len : F.length = S.length
 mark : ∀ k, F[k]? = some true → Reach S roots k
 todo : ∀ v ∈ T, ∀ j, leadsOf S v = some j → Reach S roots j
 roots : ∀ v ∈ roots, ∀ j, leadsOf S v = some j → F[j]? = some true ∨ v ∈ T
 step : ∀ (k : Nat) (o : Obj), F[k]? = some true → S[k]? = some o → ∀ v ∈ o.l.xs, ∀ j : Nat, leadsOf S v = some j → F[j]? = some true ∨ v ∈ T
theorem Marks.start (S : List Obj) (roots : List Val) : Marks S roots (List.replicate S.length false) roots :=
 ⟨by simp, fun k h => by simp [List.getElem?_replicate] at h, fun v hv j h => .root hv h, fun v hv j h => .inr hv, fun k o h => by simp [List.getElem?_replicate] at h⟩
theorem Marks.drop {S : List Obj} {roots : List Val} {F : List Bool} {T : List Val} {v : Val} (h : Marks S roots F (T ++ [v])) (hv : ∀ j, leadsOf S v = some j → F[j]? = some true) : Marks S roots F T := by
 have key : ∀ u j, leadsOf S u = some j → (F[j]? = some true ∨ u ∈ T ++ [v]) → F[j]? = some true ∨ u ∈ T := by
  intro u j hu h1
  rcases h1 with h1 | h1
  ·exact .inl h1
  ·rw [List.mem_append, List.mem_singleton] at h1
   rcases h1 with h1 | rfl
   ·exact .inr h1
   ·exact .inl (hv j hu)
 exact ⟨h.len, h.mark, fun u hu j hj => h.todo u (List.mem_append_left _ hu) j hj, fun u hu j hj => key u j hj (h.roots u hu j hj), fun k o hk ho u hu j hj => key u j hj (h.step k o hk ho u hu j hj)⟩
theorem Marks.take {S : List Obj} {roots : List Val} {F : List Bool} {T : List Val} {v : Val} {k : Nat} {o : Obj} (h : Marks S roots F (T ++ [v])) (hv : leadsOf S v = some k) (hF : F[k]? = some false) (ho : S[k]? = some o) : Marks S roots (F.set k true) (T ++ o.l.xs) := by
 have hkl : k < F.length := (List.getElem?_eq_some_iff.1 hF).1
 have hk := h.todo v (by simp) k hv
 have hset : ∀ j, (F.set k true)[j]? = some true ↔ j = k ∨ F[j]? = some true := by
  intro j
  rw [List.getElem?_set]
  by_cases e : k = j
  ·subst e; simp [hkl]
  ·rw [if_neg e]; simp [Ne.symm e]
 have key : ∀ u j, leadsOf S u = some j → (F[j]? = some true ∨ u ∈ T ++ [v]) → (F.set k true)[j]? = some true ∨ u ∈ T ++ o.l.xs := by
  intro u j hu h1
  rcases h1 with h1 | h1
  ·exact .inl ((hset j).2 (.inr h1))
  ·rw [List.mem_append, List.mem_singleton] at h1
   rcases h1 with h1 | rfl
   ·exact .inr (List.mem_append_left _ h1)
   ·rw [hv] at hu; cases hu; exact .inl ((hset k).2 (.inl rfl))
 refine ⟨by simp [h.len], fun j hj => ?_, fun u hu j hj => ?_, fun u hu j hj => key u j hj (h.roots u hu j hj), fun q p hq hp u hu j hj => ?_⟩
 ·rcases (hset j).1 hj with rfl | hj
  ·exact hk
  ·exact h.mark j hj
 ·rw [List.mem_append] at hu
  rcases hu with hu | hu
  ·exact h.todo u (List.mem_append_left _ hu) j hj
  ·exact .step hk ho hu hj
 ·rcases (hset q).1 hq with rfl | hq
  ·rw [ho] at hp; cases hp
   exact .inr (List.mem_append_right _ hu)
  ·exact key u j hj (h.step q p hq hp u hu j hj)
theorem Marks.done {S : List Obj} {roots : List Val} {F : List Bool} (h : Marks S roots F []) (k : Nat) : F[k]? = some true ↔ Reach S roots k := by
 refine ⟨h.mark k, fun hk => ?_⟩
 induction hk with
 | root hv hl => rcases h.roots _ hv _ hl with h | h; exact h; cases h
 | step _ ho hv hl ih => rcases h.step _ _ ih ho _ hv _ hl with h | h; exact h; cases h
def addAll (S : List Obj) : List Nat → List Val → List Nat
 | out, [] => out
 | out, v :: l => match leadsOf S v with
  | some o => if o ∈ out then addAll S out l else addAll S (out ++ [o]) l
  | none => addAll S out l
theorem zad (S : List Obj) : ∀ (l : List Val) (out : List Nat), ∃ r, addAll S out l = out ++ r
 | [], out => ⟨[], by simp [addAll]⟩
 | v :: l, out => by
  rw [addAll]
  split
  ·rename_i o ho
   split
   ·exact zad S l out
   ·obtain ⟨r, hr⟩ := zad S l (out ++ [o])
    exact ⟨o :: r, by rw [hr]; simp⟩
  ·exact zad S l out
theorem zac (S : List Obj) : ∀ (l : List Val) (out : List Nat), out.Nodup → (addAll S out l).Nodup
 | [], out, h => h
 | v :: l, out, h => by
  rw [addAll]
  split
  ·rename_i o ho
   split
   ·exact zac S l out h
   ·rename_i hn
    refine zac S l _ ?_
    rw [List.nodup_append]
    exact ⟨h, by simp, fun a ha b hb => by simp at hb; subst hb; exact fun e => hn (e ▸ ha)⟩
  ·exact zac S l out h
theorem zab (S : List Obj) : ∀ (l : List Val) (out : List Nat) (j : Nat), j ∈ addAll S out l ↔ j ∈ out ∨ ∃ v ∈ l, leadsOf S v = some j
 | [], out, j => by simp [addAll]
 | v :: l, out, j => by
  rw [addAll]
  split
  ·rename_i o ho
   split
   ·rename_i hm
    rw [zab S l out j]
    constructor
    ·rintro (h | ⟨u, hu, h⟩)
     ·exact .inl h
     ·exact .inr ⟨u, List.mem_cons_of_mem _ hu, h⟩
    ·rintro (h | ⟨u, hu, h⟩)
     ·exact .inl h
     ·rcases List.mem_cons.1 hu with rfl | hu
      ·rw [ho] at h; cases h; exact .inl hm
      ·exact .inr ⟨u, hu, h⟩
   ·rw [zab S l _ j, List.mem_append, List.mem_singleton]
    constructor
    ·rintro ((h | rfl) | ⟨u, hu, h⟩)
     ·exact .inl h
     ·exact .inr ⟨v, List.mem_cons_self .., ho⟩
     ·exact .inr ⟨u, List.mem_cons_of_mem _ hu, h⟩
    ·rintro (h | ⟨u, hu, h⟩)
     ·exact .inl (.inl h)
     ·rcases List.mem_cons.1 hu with rfl | hu
      ·rw [ho] at h; cases h; exact .inl (.inr rfl)
      ·exact .inr ⟨u, hu, h⟩
  ·rename_i hn
   rw [zab S l out j]
   constructor
   ·rintro (h | ⟨u, hu, h⟩)
    ·exact .inl h
    ·exact .inr ⟨u, List.mem_cons_of_mem _ hu, h⟩
   ·rintro (h | ⟨u, hu, h⟩)
    ·exact .inl h
    ·rcases List.mem_cons.1 hu with rfl | hu
     ·rw [hn] at h; cases h
     ·exact .inr ⟨u, hu, h⟩
structure Grown (S : List Obj) (roots : List Val) (out : List Nat) (i : Nat) : Prop where
 nodup : out.Nodup
 reach : ∀ k ∈ out, Reach S roots k
 roots : ∀ v ∈ roots, ∀ j, leadsOf S v = some j → j ∈ out
 step : ∀ k ∈ out.take i, ∀ o : Obj, S[k]? = some o → ∀ v ∈ o.l.xs, ∀ j, leadsOf S v = some j → j ∈ out
theorem Grown.start (S : List Obj) (roots : List Val) : Grown S roots (addAll S [] roots) 0 :=
 ⟨zac S roots [] (by simp), fun k hk => by
  rcases (zab S roots [] k).1 hk with h | ⟨v, hv, h⟩
  ·cases h
  ·exact .root hv h, fun v hv j hj => (zab S roots [] j).2 (.inr ⟨v, hv, hj⟩), fun k hk => by simp at hk⟩
theorem Grown.next {S : List Obj} {roots : List Val} {out : List Nat} {i k : Nat} {o : Obj} (h : Grown S roots out i) (hk : out[i]? = some k) (ho : S[k]? = some o) : Grown S roots (addAll S out o.l.xs) (i + 1) := by
 have hi := (List.getElem?_eq_some_iff.1 hk).1
 refine ⟨zac S _ _ h.nodup, fun j hj => ?_, fun v hv j hj => (zab S _ _ j).2 (.inl (h.roots v hv j hj)), fun q hq p hp v hv j hj => ?_⟩
 ·rcases (zab S _ _ j).1 hj with hj | ⟨v, hv, hj⟩
  ·exact h.reach j hj
  ·exact .step (h.reach k (List.mem_of_getElem? hk)) ho hv hj
 ·obtain ⟨r, hr⟩ := zad S o.l.xs out
  rw [hr, List.take_append_of_le_length (by omega), List.take_add_one, hk, List.mem_append] at hq
  rcases hq with hq | hq
  ·exact (zab S _ _ j).2 (.inl (h.step q hq p hp v hv j hj))
  ·simp at hq; subst hq
   rw [ho] at hp; cases hp
   exact (zab S _ _ j).2 (.inr ⟨v, hv, hj⟩)
theorem Grown.done {S : List Obj} {roots : List Val} {out : List Nat} {i : Nat} (h : Grown S roots out i) (hi : out.length ≤ i) (k : Nat) : k ∈ out ↔ Reach S roots k := by
 refine ⟨h.reach k, fun hk => ?_⟩
 have hs := h.step
 rw [List.take_of_length_le hi] at hs
 induction hk with
 | root hv hl => exact h.roots _ hv _ hl
 | step _ ho hv hl ih => exact hs _ ih _ ho _ hv _ hl
theorem Grown.short {S : List Obj} {roots : List Val} {out : List Nat} {i : Nat} (h : Grown S roots out i) : out.length ≤ S.length := by
 have hp : out.Perm ((List.range S.length).filter fun k => decide (k ∈ out)) := (List.perm_ext_iff_of_nodup h.nodup (List.nodup_range.filter _)).2 fun k => by
  rw [List.mem_filter, List.mem_range]
  exact ⟨fun hk => ⟨(h.reach k hk).lt, by simpa using hk⟩, fun hk => by simpa using hk.2⟩
 rw [hp.length_eq]
 exact Nat.le_trans (List.length_filter_le _ _) (by simp)
def wordsOf (o : Obj) : Nat :=
 if o.k = 3 then 2 + (o.s.size + 7) / 8 else if o.k = 4 ∨ o.k = 5 then (if 0 < o.room then 4 + 2 * o.room.toNat else 3) else if o.k = 6 then 2 + 2 * o.l.xs.length else 3
def wordsAt (S : List Obj) (k : Nat) : Nat := match S[k]? with
 | some o => wordsOf o
 | none => 0
end Go.EX


set_option linter.unusedVariables false
set_option linter.unusedSimpArgs false
namespace Go.EX
abbrev strV (b : ByteArray) : AV := .imm (.val (.string b))
structure TextCode (code : Nat → Option XFun) (ext : Calls') : Prop where
 c673 : code 673 = some x673
 c669 : code 669 = some x669
 c244 : code 244 = some x244
 n674 : code 674 = none
 e674 : ∀ a m, ext 674 a m = extCheck 674 674 a m
 n670 : code 670 = none
 e670 : ∀ a m, ext 670 a m = extStr 670 670 a m
 c785 : code 785 = some x785
 c786 : code 786 = some x786
 c709 : code 709 = some x709
 n708 : code 708 = none
 e708 : ∀ a m, ext 708 a m = extItoa 708 708 a m
section
variable {code : Nat → Option XFun} {ext : Calls'}
theorem zmr (b : ByteArray) : (rowOfS b).length = b.size := by simp [rowOfS]
theorem zmq (a b : ByteArray) : rowOfS (a ++ b) = rowOfS a ++ rowOfS b := by
 simp [rowOfS, ByteArray.data_append]
theorem zoe (a b : ByteArray) : (a ++ b).size = a.size + b.size := ByteArray.size_append
theorem zc4 {b : ByteArray} (h : b.size = 0) : b = .empty := by
 cases b with
 | mk d =>
  have : d.size = 0 := h
  have : d = #[] := Array.eq_empty_of_size_eq_zero this
  subst this; rfl
def bAddr : Bool → AV
 | true => .optr 0 0
 | false => .seat 0 0
def bNil (used : Bool) (sv : IV) : Mem := [.rich [bAddr used, nilS, .imm sv]]
def bOne (sv : IV) (b : ByteArray) : Mem := [.rich [.optr 0 0, .osl 1 0 1 b.size none, .imm sv], .text (rowOfS b)]
def bTwo (sv : IV) (b : ByteArray) : Mem := [.rich [.optr 0 0, .osl 2 0 1 b.size none, .imm sv], .dead, .text (rowOfS b)]
theorem zbu (c : TextCode code ext) (u : Bool) (sv : IV) : callW code ext 674 [.optr 0 0] (bNil u sv) = some (.tup [], bNil true sv) := by
 rw [zbd code ext c.n674 (by decide), c.e674]
 cases u <;> rfl
theorem zbv (c : TextCode code ext) (sv : IV) (b : ByteArray) : callW code ext 674 [.optr 0 0] (bOne sv b) = some (.tup [], bOne sv b) := by
 rw [zbd code ext c.n674 (by decide), c.e674]
 rfl
theorem zq5 (c : TextCode code ext) (u : Bool) (sv : IV) : callW code ext 673 [.optr 0 0, strV .empty] (bNil u sv) = some (.tup [int64 0, .imm (.val .nilIface)], bNil true sv) := by
 have h := zbu c u sv
 rw [zbe code ext c.c673]
 have e0 : elems (bNil true sv) 1 (strV .empty) = some (0, []) := rfl
 cases u <;> (simp only [bNil, bAddr] at h e0 ⊢; simp -implicitDefEqProofs [x673, h, exAppendS, elems, e0])
theorem zq4 (c : TextCode code ext) (u : Bool) (sv : IV) (x : ByteArray) (h0 : 0 < x.size) (hx : x.size ≤ 140737488355328) : callW code ext 673 [.optr 0 0, strV x] (bNil u sv) = some (.tup [int64 x.size, .imm (.val .nilIface)], bOne sv x) := by
 have h := zbu c u sv
 rw [zbe code ext c.c673]
 have h1 : ¬ x.size = 0 := by omega
 have e0 : ∀ m, elems m 1 (strV x) = some (x.size, rowOfS x) := fun m => rfl
 cases u <;> (simp only [bNil, bAddr, bOne] at h ⊢; simp -implicitDefEqProofs [x673, h, exAppendS, e0, h1, hx])
theorem zq6 (c : TextCode code ext) (sv : IV) (b x : ByteArray) (h0 : 0 < b.size) (hx : b.size + x.size ≤ 140737488355328) : callW code ext 673 [.optr 0 0, strV x] (bOne sv b) = some (.tup [int64 x.size, .imm (.val .nilIface)], bTwo sv (b ++ x)) := by
 have h := zbv c sv b
 rw [zbe code ext c.c673]
 have e0 : ∀ m, elems m 1 (strV x) = some (x.size, rowOfS x) := fun m => rfl
 have e1 := zmr b
 simp only [bTwo, bOne, zoe, zmq] at h ⊢
 simp -implicitDefEqProofs [x673, h, exAppendS, e0, e1, h0, hx]
theorem zhc (c : TextCode code ext) (u : Bool) (sv : IV) : callW code ext 669 [.optr 0 0] (bNil u sv) = some (int64 0, bNil u sv) := by
 rw [zbe code ext c.c669]
 cases u <;> (simp only [bNil, bAddr]; simp -implicitDefEqProofs [x669])
theorem zhd (c : TextCode code ext) (sv : IV) (b : ByteArray) : callW code ext 669 [.optr 0 0] (bOne sv b) = some (int64 b.size, bOne sv b) := by
 rw [zbe code ext c.c669]
 simp only [bOne]
 simp -implicitDefEqProofs [x669]
theorem zhk (c : TextCode code ext) (u : Bool) (sv : IV) : callW code ext 244 [.optr 0 0] (bNil u sv) = some (avb false, bNil u sv) := by
 have h := zhc c u sv
 rw [zbe code ext c.c244]
 cases u <;> (simp only [bNil, bAddr] at h ⊢; simp -implicitDefEqProofs [x244, h])
theorem zhl (c : TextCode code ext) (sv : IV) (b : ByteArray) : callW code ext 244 [.optr 0 0] (bOne sv b) = some (avb (decide (4096 < b.size)), bOne sv b) := by
 have h := zhd c sv b
 rw [zbe code ext c.c244]
 simp only [bOne] at h ⊢
 simp -implicitDefEqProofs [x244, h]
 omega
end
end Go.EX


set_option linter.unusedVariables false
set_option linter.unusedSimpArgs false
namespace Go.EX
abbrev nilT : ByteArray := ⟨#[110, 105, 108]⟩
abbrev yesT : ByteArray := ⟨#[121, 101, 115]⟩
abbrev noT : ByteArray := ⟨#[110, 111]⟩
abbrev askT : ByteArray := ⟨#[63]⟩
abbrev fnT : ByteArray := ⟨#[102, 110, 32]⟩
abbrev dotsT : ByteArray := ⟨#[46, 46]⟩
abbrev openL : ByteArray := ⟨#[91]⟩
abbrev endL : ByteArray := ⟨#[93]⟩
abbrev openM : ByteArray := ⟨#[123]⟩
abbrev endM : ByteArray := ⟨#[125]⟩
abbrev keyT : ByteArray := ⟨#[58, 32]⟩
abbrev nextT : ByteArray := ⟨#[44, 32]⟩
abbrev lackT : ByteArray := ⟨#[58, 32, 110, 105, 108]⟩
def dig (n : Int) : ByteArray := ⟨(Go.Lib.itoa n).toArray⟩
def objOf (S : List Obj) (v : Val) : Option Obj := (leadsOf S v).bind fun k => S[k]?
def pieceOf (S : List Obj) (deep : Bool) (v : Val) : Option ByteArray :=
 if v.k = 0 then some nilT
 else if v.k = 1 then some (if v.n = 1 then yesT else noT)
 else if v.k = 2 then some (dig v.n)
 else match objOf S v with
  | none => some askT
  | some o => if v.k = 7 then some askT else if v.k = 3 then some o.s else if v.k = 6 then some (fnT ++ dig o.fn) else if deep then some dotsT else none
def itemsV (f : Val → ByteArray → ByteArray) (m : Bool) : List Val → Nat → ByteArray → ByteArray × Bool
 | [], _, c => (c, false)
 | v :: r, i, c => if 4096 < c.size then (c, true) else itemsV f m r (i + 1) (f v (if m = true ∧ i % 2 = 1 then c ++ keyT else if 0 < i then c ++ nextT else c))
def rowV (f : Val → ByteArray → ByteArray) (o : Obj) (c : ByteArray) : ByteArray :=
 let m := decide (o.k = 5)
 let p := itemsV f m o.l.xs 0 (c ++ if m then openM else openL)
 if p.2 then p.1 else (if m = true ∧ o.l.xs.length % 2 = 1 then p.1 ++ lackT else p.1) ++ if m then endM else endL
def tellV (S : List Obj) : Nat → Val → ByteArray → ByteArray
 | d, v, c => match pieceOf S (d == 0) v with
  | some x => c ++ x
  | none => match d, objOf S v with
   | d + 1, some o => rowV (tellV S d) o c
   | _, _ => c
section
variable {code : Nat → Option XFun} {ext : Calls'}
theorem zg5 (h : code 651 = some x651) {sv : IV} {S : List Obj} (hr : Reads tObj sv S) (v : Val) (hv : (tInt .i64).wf v.n) :
  (leadsOf S v = none ∧ callW code ext 651 [.imm sv, .agg [.imm (.val (.int .u8 v.k)), int64 v.n]] [] = some (.imm (.val (.pointer none)), [])) ∨
  ∃ k o row off, leadsOf S v = some k ∧ S[k]? = some o ∧ cut row off 5 = some [.val (.int .u8 o.k), .val (.string o.s), o.l.iv, .val (.int .i64 o.room), .val (.int .i64 o.fn)] ∧
   callW code ext 651 [.imm sv, .agg [.imm (.val (.int .u8 v.k)), int64 v.n]] [] = some (.imm (.ptr row off), []) := by
 rw [zbe code ext h]
 have hlen := zlu hr
 have hb := hr.2.1
 unfold leadsOf
 by_cases c1 : v.k < 3
 ·left; exact ⟨by simp [c1], by simp -implicitDefEqProofs [x651, c1]⟩
 by_cases c2 : 7 < v.k
 ·left; exact ⟨by simp [c1, c2], by simp -implicitDefEqProofs [x651, c1, c2]⟩
 by_cases c3 : v.n < 1
 ·left; exact ⟨by simp [c1, c2, c3], by simp -implicitDefEqProofs [x651, c1, c2, c3]⟩
 by_cases c4 : (S.length : Int) < v.n
 ·left; exact ⟨by simp [c1, c2, c3, c4], by simp -implicitDefEqProofs [x651, c1, c2, c3, c4, hlen]⟩
 obtain ⟨vk, vn⟩ := v
 simp only at c1 c2 c3 c4 hv ⊢
 obtain ⟨p, rfl⟩ : ∃ p : Nat, vn = (p : Int) + 1 := ⟨(vn - 1).toNat, by omega⟩
 have hlt : p < S.length := by omega
 obtain ⟨row, off, cap, rfl, hc, hcut, hget⟩ := zlv hr (List.getElem?_eq_getElem hlt)
 have ep : ((p : Int) + 1 - 1).toNat = p := by omega
 rw [if_neg c1, if_neg c2, if_neg c3, if_neg c4, ep, List.getElem?_eq_getElem hlt]
 have hse : S[p]? = some S[p] := List.getElem?_eq_getElem hlt
 generalize S[p] = o at hget hse
 simp only [tObj] at hget
 have g0 : row[off + p * 5]? = some (.val (.int .u8 o.k)) := zcc hget 0 (by omega)
 have e1 : IntKind.wrap .i64 (p : Int) = p := wrapI64 (by omega) (by omega)
 by_cases c5 : o.k = vk
 ·right
  refine ⟨p, o, row, off + p * 5, by simp [c5], hse, hget, ?_⟩
  simp -implicitDefEqProofs [x651, c1, c2, c3, c4, hlen, e1, g0, c5, hlt]
 ·left
  exact ⟨by simp [c5], by simp -implicitDefEqProofs [x651, c1, c2, c3, c4, hlen, e1, g0, c5, hlt]⟩
end
end Go.EX


set_option maxHeartbeats 4000000
set_option linter.unusedVariables false
set_option linter.unusedSimpArgs false
namespace Go.EX
section
variable {code : Nat → Option XFun} {ext : Calls'}
theorem zez (c : TextCode code ext) (n : Int) (hn : (tInt .i64).wf n) : callW code ext 785 [int64 n, int64 10] [] = some (strV (dig n), []) := by
 obtain ⟨h0, h1⟩ := wfI64.1 hn
 have h : callW code ext 708 [int64 n, int64 10] [] = some (strV (dig n), []) := by
  rw [zbd code ext c.n708 (by decide), c.e708]
  simp [extItoa, h0, h1, dig]
 rw [zbe code ext c.c785]
 simp -implicitDefEqProofs [x785, h]
theorem zgg (c : TextCode code ext) (n : Int) (hn : (tInt .i64).wf n) : callW code ext 786 [int64 n] [] = some (strV (dig n), []) := by
 obtain ⟨h0, h1⟩ := wfI64.1 hn
 have h : callW code ext 708 [int64 n, int64 10] [] = some (strV (dig n), []) := by
  rw [zbd code ext c.n708 (by decide), c.e708]
  simp [extItoa, h0, h1, dig]
 have h2 : callW code ext 709 [int64 n] [] = some (strV (dig n), []) := by
  rw [zbe code ext c.c709]
  simp -implicitDefEqProofs [x709, h]
 rw [zbe code ext c.c786]
 simp -implicitDefEqProofs [x786, h2]
theorem zqo (c : TextCode code ext) (h : code 651 = some x651) (h246 : code 246 = some x246) {sv : IV} {S : List Obj} (hr : Reads tObj sv S) (v : Val) (hv : tVal.wf v) (inn : Int) (b : ByteArray) (x : ByteArray)
  (hp : pieceOf S (decide (8 < inn)) v = some x) {nw : Int} (hw : callW code ext 673 [.optr 0 0, strV x] (bOne sv b) = some (.tup [int64 nw, .imm (.val .nilIface)], bTwo sv (b ++ x))) (hfn : ∀ o ∈ S, (tInt .i64).wf o.fn) (hsz : x.size ≤ 9223372036854775807) :
  callW code ext 246 [.optr 0 0, .agg [.imm (.val (.int .u8 v.k)), int64 v.n], int64 inn] (bOne sv b) = some (.tup [], bTwo sv (b ++ x)) := by
 have hld := zg5 (ext := ext) h hr v hv.2
 have hfm := zez c v.n hv.2
 rw [zbe code ext h246]
 simp only [bOne, bTwo] at hw ⊢
 obtain ⟨vk, vn⟩ := v
 simp only at hld hfm hp ⊢
 unfold pieceOf objOf at hp
 by_cases k0 : vk = 0
 ·subst k0
  simp at hp; subst hp
  rcases hld with ⟨_, hl⟩ | ⟨k, o, row, off, _, _, _, hl⟩ <;> simp -implicitDefEqProofs [x246, hl, hw]
 by_cases k1 : vk = 1
 ·subst k1
  by_cases hn : vn = 1
  ·subst hn
   simp at hp; subst hp
   rcases hld with ⟨_, hl⟩ | ⟨k, o, row, off, _, _, _, hl⟩ <;> simp -implicitDefEqProofs [x246, hl, hw]
  ·simp [hn] at hp; subst hp
   rcases hld with ⟨_, hl⟩ | ⟨k, o, row, off, _, _, _, hl⟩ <;> simp -implicitDefEqProofs [x246, hl, hw, hn]
 by_cases k2 : vk = 2
 ·subst k2
  simp at hp; subst hp
  rcases hld with ⟨_, hl⟩ | ⟨k, o, row, off, _, _, _, hl⟩ <;> simp -implicitDefEqProofs [x246, hl, hw, hfm]
 rcases hld with ⟨hn, hl⟩ | ⟨k, o, row, off, hle, hso, hget, hl⟩
 ·simp [k0, k1, k2, hn] at hp; subst hp
  simp -implicitDefEqProofs [x246, hl, hw, k0, k1, k2]
 have hof := hfn o (List.mem_of_getElem? hso)
 have hit := zgg c o.fn hof
 have g0 : row[off]? = some (.val (.int .u8 o.k)) := by simpa using zcc hget 0 (by omega)
 have g1 : row[off + 1]? = some (.val (.string o.s)) := zcc hget 1 (by omega)
 have g4 : row[off + 4]? = some (.val (.int .i64 o.fn)) := zcc hget 4 (by omega)
 simp only [hle, Option.bind_some, hso, k0, k1, k2, if_false] at hp
 by_cases k7 : vk = 7
 ·subst k7
  simp at hp; subst hp
  simp -implicitDefEqProofs [x246, hl, hw]
 by_cases k3 : vk = 3
 ·subst k3
  simp at hp; subst hp
  simp -implicitDefEqProofs [x246, hl, hw, g1]
 by_cases k6 : vk = 6
 ·subst k6
  simp at hp; subst hp
  have hs1 : fnT.size + (dig o.fn).size ≤ 9223372036854775807 := by rw [← zoe]; exact hsz
  simp -implicitDefEqProofs [x246, hl, hw, g4, hit, hs1]
 by_cases hd : (8 : Int) < inn
 ·simp [k7, k3, k6, hd] at hp; subst hp
  simp -implicitDefEqProofs [x246, hl, hw, k0, k1, k2, k7, k3, k6, hd]
 ·simp [k7, k3, k6, hd] at hp
theorem zqm (c : TextCode code ext) (h : code 651 = some x651) (h246 : code 246 = some x246) {sv : IV} {S : List Obj} (hr : Reads tObj sv S) (v : Val) (hv : tVal.wf v) (inn : Int) (u : Bool) (x : ByteArray)
  (hp : pieceOf S (decide (8 < inn)) v = some x) {nw : Int} (hw : callW code ext 673 [.optr 0 0, strV x] (bNil u sv) = some (.tup [int64 nw, .imm (.val .nilIface)], bOne sv x)) (hfn : ∀ o ∈ S, (tInt .i64).wf o.fn) (hsz : x.size ≤ 9223372036854775807) :
  callW code ext 246 [.optr 0 0, .agg [.imm (.val (.int .u8 v.k)), int64 v.n], int64 inn] (bNil u sv) = some (.tup [], bOne sv x) := by
 have hld := zg5 (ext := ext) h hr v hv.2
 have hfm := zez c v.n hv.2
 rw [zbe code ext h246]
 simp only [bNil, bAddr, bOne] at hw ⊢
 obtain ⟨vk, vn⟩ := v
 simp only at hld hfm hp ⊢
 unfold pieceOf objOf at hp
 cases u <;> simp only [] at hw ⊢
 all_goals
  by_cases k0 : vk = 0
  ·subst k0
   simp at hp; subst hp
   rcases hld with ⟨_, hl⟩ | ⟨k, o, row, off, _, _, _, hl⟩ <;> simp -implicitDefEqProofs [x246, hl, hw]
  by_cases k1 : vk = 1
  ·subst k1
   by_cases hn : vn = 1
   ·subst hn
    simp at hp; subst hp
    rcases hld with ⟨_, hl⟩ | ⟨k, o, row, off, _, _, _, hl⟩ <;> simp -implicitDefEqProofs [x246, hl, hw]
   ·simp [hn] at hp; subst hp
    rcases hld with ⟨_, hl⟩ | ⟨k, o, row, off, _, _, _, hl⟩ <;> simp -implicitDefEqProofs [x246, hl, hw, hn]
  by_cases k2 : vk = 2
  ·subst k2
   simp at hp; subst hp
   rcases hld with ⟨_, hl⟩ | ⟨k, o, row, off, _, _, _, hl⟩ <;> simp -implicitDefEqProofs [x246, hl, hw, hfm]
  rcases hld with ⟨hn, hl⟩ | ⟨k, o, row, off, hle, hso, hget, hl⟩
  ·simp [k0, k1, k2, hn] at hp; subst hp
   simp -implicitDefEqProofs [x246, hl, hw, k0, k1, k2]
  have hof := hfn o (List.mem_of_getElem? hso)
  have hit := zgg c o.fn hof
  have g0 : row[off]? = some (.val (.int .u8 o.k)) := by simpa using zcc hget 0 (by omega)
  have g1 : row[off + 1]? = some (.val (.string o.s)) := zcc hget 1 (by omega)
  have g4 : row[off + 4]? = some (.val (.int .i64 o.fn)) := zcc hget 4 (by omega)
  simp only [hle, Option.bind_some, hso, k0, k1, k2, if_false] at hp
  by_cases k7 : vk = 7
  ·subst k7
   simp at hp; subst hp
   simp -implicitDefEqProofs [x246, hl, hw]
  by_cases k3 : vk = 3
  ·subst k3
   simp at hp; subst hp
   simp -implicitDefEqProofs [x246, hl, hw, g1]
  by_cases k6 : vk = 6
  ·subst k6
   simp at hp; subst hp
   have hs1 : fnT.size + (dig o.fn).size ≤ 9223372036854775807 := by rw [← zoe]; exact hsz
   simp -implicitDefEqProofs [x246, hl, hw, g4, hit, hs1]
  by_cases hd : (8 : Int) < inn
  ·simp [k7, k3, k6, hd] at hp; subst hp
   simp -implicitDefEqProofs [x246, hl, hw, k0, k1, k2, k7, k3, k6, hd]
  ·simp [k7, k3, k6, hd] at hp
theorem zqn (c : TextCode code ext) (h : code 651 = some x651) (h246 : code 246 = some x246) {sv : IV} {S : List Obj} (hr : Reads tObj sv S) (v : Val) (hv : tVal.wf v) (inn : Int) (u : Bool) (x : ByteArray)
  (hp : pieceOf S (decide (8 < inn)) v = some x) {nw : Int} (hw : callW code ext 673 [.optr 0 0, strV x] (bNil u sv) = some (.tup [int64 nw, .imm (.val .nilIface)], bNil true sv)) (hfn : ∀ o ∈ S, (tInt .i64).wf o.fn) (hsz : x.size ≤ 9223372036854775807) :
  callW code ext 246 [.optr 0 0, .agg [.imm (.val (.int .u8 v.k)), int64 v.n], int64 inn] (bNil u sv) = some (.tup [], bNil true sv) := by
 have hld := zg5 (ext := ext) h hr v hv.2
 have hfm := zez c v.n hv.2
 rw [zbe code ext h246]
 simp only [bNil, bAddr] at hw ⊢
 obtain ⟨vk, vn⟩ := v
 simp only at hld hfm hp ⊢
 unfold pieceOf objOf at hp
 cases u <;> simp only [] at hw ⊢
 all_goals
  by_cases k0 : vk = 0
  ·subst k0
   simp at hp; subst hp
   rcases hld with ⟨_, hl⟩ | ⟨k, o, row, off, _, _, _, hl⟩ <;> simp -implicitDefEqProofs [x246, hl, hw]
  by_cases k1 : vk = 1
  ·subst k1
   by_cases hn : vn = 1
   ·subst hn
    simp at hp; subst hp
    rcases hld with ⟨_, hl⟩ | ⟨k, o, row, off, _, _, _, hl⟩ <;> simp -implicitDefEqProofs [x246, hl, hw]
   ·simp [hn] at hp; subst hp
    rcases hld with ⟨_, hl⟩ | ⟨k, o, row, off, _, _, _, hl⟩ <;> simp -implicitDefEqProofs [x246, hl, hw, hn]
  by_cases k2 : vk = 2
  ·subst k2
   simp at hp; subst hp
   rcases hld with ⟨_, hl⟩ | ⟨k, o, row, off, _, _, _, hl⟩ <;> simp -implicitDefEqProofs [x246, hl, hw, hfm]
  rcases hld with ⟨hn, hl⟩ | ⟨k, o, row, off, hle, hso, hget, hl⟩
  ·simp [k0, k1, k2, hn] at hp; subst hp
   simp -implicitDefEqProofs [x246, hl, hw, k0, k1, k2]
  have hof := hfn o (List.mem_of_getElem? hso)
  have hit := zgg c o.fn hof
  have g0 : row[off]? = some (.val (.int .u8 o.k)) := by simpa using zcc hget 0 (by omega)
  have g1 : row[off + 1]? = some (.val (.string o.s)) := zcc hget 1 (by omega)
  have g4 : row[off + 4]? = some (.val (.int .i64 o.fn)) := zcc hget 4 (by omega)
  simp only [hle, Option.bind_some, hso, k0, k1, k2, if_false] at hp
  by_cases k7 : vk = 7
  ·subst k7
   simp at hp; subst hp
   simp -implicitDefEqProofs [x246, hl, hw]
  by_cases k3 : vk = 3
  ·subst k3
   simp at hp; subst hp
   simp -implicitDefEqProofs [x246, hl, hw, g1]
  by_cases k6 : vk = 6
  ·subst k6
   simp at hp; subst hp
   have hs1 : fnT.size + (dig o.fn).size ≤ 9223372036854775807 := by rw [← zoe]; exact hsz
   simp -implicitDefEqProofs [x246, hl, hw, g4, hit, hs1]
  by_cases hd : (8 : Int) < inn
  ·simp [k7, k3, k6, hd] at hp; subst hp
   simp -implicitDefEqProofs [x246, hl, hw, k0, k1, k2, k7, k3, k6, hd]
  ·simp [k7, k3, k6, hd] at hp
end
end Go.EX


set_option maxHeartbeats 4000000
set_option linter.unusedVariables false
set_option linter.unusedSimpArgs false
namespace Go.EX
section
variable {code : Nat → Option XFun} {ext : Calls'}
theorem q_add (k : IntKind) (a b : Int) : intBin .add k a b = some (.int k (k.wrap (a + b))) := rfl
theorem q_eql (k : IntKind) (a b : Int) : intBin .eql k a b = some (.bool (a == b)) := rfl
theorem q_lss (k : IntKind) (a b : Int) : intBin .lss k a b = some (.bool (a < b)) := rfl
theorem q_gtr (k : IntKind) (a b : Int) : intBin .gtr k a b = some (.bool (a > b)) := rfl
theorem tmod2 (i : Nat) : intBin .rem .i64 (i : Int) 2 = some (.int .i64 ((i % 2 : Nat) : Int)) := by
 simp only [intBin]
 rw [if_neg (by decide), Int.tmod_eq_emod_of_nonneg (by omega)]
 simp
structure ItemOK (code : Nat → Option XFun) (ext : Calls') (sv : IV) (inn : Int) (f : Val → ByteArray → ByteArray) (xs : List Val) (B : Nat) : Prop where
 call : ∀ v ∈ xs, ∀ c : ByteArray, 0 < c.size → c.size ≤ 5000 → callW code ext 246 [.optr 0 0, .agg [.imm (.val (.int .u8 v.k)), int64 v.n], int64 inn] (bOne sv c) = some (.tup [], bTwo sv (f v c))
 pos : ∀ v ∈ xs, ∀ c : ByteArray, 0 < c.size → 0 < (f v c).size
 size : ∀ v ∈ xs, ∀ c : ByteArray, c.size ≤ 5000 → (f v c).size ≤ B
theorem zgq (c : ByteArray) : (c ++ keyT).size = c.size + 2 := zoe c keyT
theorem ziy (c : ByteArray) : (c ++ nextT).size = c.size + 2 := zoe c nextT
theorem zge (c : TextCode code ext) {sv : IV} {inn : Int} (hinn : 0 ≤ inn ∧ inn ≤ 100) {f : Val → ByteArray → ByteArray} {o : Obj} {B : Nat} (hB : B ≤ 100000000) (hI : ItemOK code ext sv (inn + 1) f o.l.xs B) (hl : o.l.xs.length ≤ 1000000) {row : List IV} {off : Nat} (g0 : row[off]? = some (.val (.int .u8 o.k))) (en : ByteArray) (c0 : ByteArray) (h0 : 0 < c0.size) (hB0 : c0.size ≤ B) :
  ∃ e s', den code ext (.loop [0, 1, 2, 7, 23, 24, 25] x245L1) ⟨2, [(0, .optr 0 0), (1, .imm (.ptr row off)), (2, int64 inn), (7, strV en), (23, .imm o.l.iv), (24, int64 o.l.xs.length), (25, int64 0)], bTwo sv c0⟩ = some (e, s') ∧ e ≠ .normal ∧
   ((e = .ret ∧ leave s' x245 = some (.tup [], bTwo sv (itemsV f (decide (o.k = 5)) o.l.xs 0 c0).1) ∧ (itemsV f (decide (o.k = 5)) o.l.xs 0 c0).2 = true) ∨
    (e = .exit 0 ∧ s' = ⟨2, [(0, .optr 0 0), (1, .imm (.ptr row off)), (2, int64 inn), (7, strV en), (23, .imm o.l.iv), (24, int64 o.l.xs.length), (25, int64 o.l.xs.length), (26, avb false)], bTwo sv (itemsV f (decide (o.k = 5)) o.l.xs 0 c0).1⟩ ∧ (itemsV f (decide (o.k = 5)) o.l.xs 0 c0).2 = false ∧ 0 < (itemsV f (decide (o.k = 5)) o.l.xs 0 c0).1.size ∧ (itemsV f (decide (o.k = 5)) o.l.xs 0 c0).1.size ≤ B)) := by
 have hr := o.l.ok
 have hlen := zlu hr
 refine zho (fun n s => ∃ (i : Nat) (b : ByteArray), i + n = o.l.xs.length ∧ 0 < b.size ∧ b.size ≤ B ∧ itemsV f (decide (o.k = 5)) o.l.xs 0 c0 = itemsV f (decide (o.k = 5)) (o.l.xs.drop i) i b ∧
  s.tidy [0, 1, 2, 7, 23, 24, 25] = ⟨2, [(0, .optr 0 0), (1, .imm (.ptr row off)), (2, int64 inn), (7, strV en), (23, .imm o.l.iv), (24, int64 o.l.xs.length), (25, int64 (i : Nat))], bTwo sv b⟩) _ ?_ o.l.xs.length _ ⟨0, c0, by omega, h0, hB0, by simp, by simp only [bTwo]; simp -implicitDefEqProofs⟩
 rintro n s ⟨i, b, hi, hb, hbB, hg, hst⟩
 rw [hst, hg]
 by_cases hlt : i < o.l.xs.length
 ·have hx : o.l.xs[i]? = some o.l.xs[i] := List.getElem?_eq_getElem hlt
  have hmem : o.l.xs[i] ∈ o.l.xs := List.getElem_mem hlt
  obtain ⟨r2, o2, cap, hiv, hc, hcut, hget⟩ := zlv hr hx
  rw [List.drop_eq_getElem_cons hlt, itemsV] at *
  generalize o.l.xs[i] = v at hget hmem hg
  simp only [tVal] at hget
  have e1 : IntKind.wrap .i64 ((i : Int) + 1) = (i : Int) + 1 := wrapI64 (by omega) (by omega)
  have e2 : IntKind.wrap .i64 (inn + 1) = inn + 1 := wrapI64 (by omega) (by omega)
  have hlg := zhl c sv b
  rw [hiv]
  generalize o.l.iv = liv at *
  by_cases h4 : 4096 < b.size
  ·rw [if_pos h4]
   simp only [bOne, bTwo, h4, decide_true] at hlg ⊢
   refine ⟨.ret, _, by simp -implicitDefEqProofs [x245L1, hlt, hget, hlg]; rfl, .inr ⟨by simp, .inl ⟨rfl, by simp -implicitDefEqProofs [x245], by simp⟩⟩⟩
  ·rw [if_neg h4]
   have hm2 := tmod2 i
   have hlf : decide (4096 < b.size) = false := by simpa using h4
   rw [hlf] at hlg
   have step : ∀ x : ByteArray, x.size ≤ 2 → (hv : callW code ext 246 [.optr 0 0, .agg [.imm (.val (.int .u8 v.k)), int64 v.n], int64 (inn + 1)] (bOne sv (b ++ x)) = some (.tup [], bTwo sv (f v (b ++ x)))) → True := fun _ _ _ => trivial
   by_cases hk : o.k = 5 ∧ i % 2 = 1
   ·have hw := zq6 c sv b keyT hb (by have : keyT.size = 2 := rfl; omega)
    have hv := hI.call v hmem (b ++ keyT) (by rw [zgq]; omega) (by rw [zgq]; omega)
    have hp := hI.pos v hmem (b ++ keyT) (by rw [zgq]; omega)
    have hs := hI.size v hmem (b ++ keyT) (by rw [zgq]; omega)
    obtain ⟨hk5, hodd⟩ := hk
    rw [hk5] at g0
    rw [hodd] at hm2
    simp only [hk5, decide_true, hodd, and_self, if_true] at *
    generalize f v (b ++ keyT) = b2 at *
    simp only [bOne, bTwo, ByteArray.size_append] at hlg hw hv ⊢
    refine ⟨.normal, _, by simp -implicitDefEqProofs [-intBin, q_lss, q_add, q_eql, x245L1, hlt, hget, hlg, g0, hm2, hw, hv, e1, e2]; rfl, .inl ⟨rfl, n - 1, by omega, i + 1, b2, by omega, hp, hs, rfl, by simp -implicitDefEqProofs⟩⟩
   ·by_cases h00 : 0 < i
    ·have hw := zq6 c sv b nextT hb (by have : nextT.size = 2 := rfl; omega)
     have hv := hI.call v hmem (b ++ nextT) (by rw [ziy]; omega) (by rw [ziy]; omega)
     have hp := hI.pos v hmem (b ++ nextT) (by rw [ziy]; omega)
     have hs := hI.size v hmem (b ++ nextT) (by rw [ziy]; omega)
     have h00' : (0 : Int) < i := by omega
     by_cases hk5 : o.k = 5
     ·have heven : i % 2 = 0 := by have : ¬ i % 2 = 1 := fun h => hk ⟨hk5, h⟩; omega
      rw [hk5] at g0
      rw [heven] at hm2
      simp only [hk5, decide_true, heven, h00, if_true] at *
      simp only [show ¬ (0 = 1) by decide, and_false, if_false] at *
      have h01 : 0 < i := by omega
      generalize f v (b ++ nextT) = b2 at *
      simp only [bOne, bTwo, ByteArray.size_append] at hlg hw hv ⊢
      refine ⟨.normal, _, by simp -implicitDefEqProofs [-intBin, q_lss, q_gtr, q_add, q_eql, x245L1, hlt, hget, hlg, g0, hm2, hw, hv, e1, e2, h01, h00']; rfl, .inl ⟨rfl, n - 1, by omega, i + 1, b2, by omega, hp, hs, rfl, by simp -implicitDefEqProofs⟩⟩
     ·have hkd : decide (o.k = 5) = false := by simpa using hk5
      rw [hkd] at *
      simp only [h00, if_true, Bool.false_eq_true, false_and, if_false] at *
      have h01 : 0 < i := by omega
      generalize f v (b ++ nextT) = b2 at *
      simp only [bOne, bTwo, ByteArray.size_append] at hlg hw hv ⊢
      refine ⟨.normal, _, by simp -implicitDefEqProofs [-intBin, q_lss, q_gtr, q_add, q_eql, x245L1, hlt, hget, hlg, g0, hk5, hw, hv, e1, e2, h01, h00']; rfl, .inl ⟨rfl, n - 1, by omega, i + 1, b2, by omega, hp, hs, rfl, by simp -implicitDefEqProofs⟩⟩
    ·have h00' : ¬ (0 : Int) < i := by omega
     have hi0 : i = 0 := by omega
     subst hi0
     have hv := hI.call v hmem b (by omega) (by omega)
     have hp := hI.pos v hmem b (by omega)
     have hs := hI.size v hmem b (by omega)
     have hno : ¬ (decide (o.k = 5) = true ∧ 0 % 2 = 1) := by simp
     rw [if_neg hno, if_neg h00]
     simp only [Nat.zero_mul, Nat.add_zero] at hget
     have hm0 : intBin .rem .i64 0 2 = some (.int .i64 0) := rfl
     have e10 : IntKind.wrap .i64 1 = 1 := rfl
     generalize f v b = b2 at *
     simp only [bOne, bTwo] at hlg hv ⊢
     by_cases hk5 : o.k = 5
     ·rw [hk5] at g0
      refine ⟨.normal, _, by simp -implicitDefEqProofs [-intBin, q_lss, q_gtr, q_add, q_eql, x245L1, hlt, hget, hlg, g0, hm0, hv, e10, e2]; rfl, .inl ⟨rfl, n - 1, by omega, 1, b2, by omega, hp, hs, rfl, by simp -implicitDefEqProofs⟩⟩
     ·refine ⟨.normal, _, by simp -implicitDefEqProofs [-intBin, q_lss, q_gtr, q_add, q_eql, x245L1, hlt, hget, hlg, g0, hk5, hv, e10, e2]; rfl, .inl ⟨rfl, n - 1, by omega, 1, b2, by omega, hp, hs, rfl, by simp -implicitDefEqProofs⟩⟩
 ·have hie : i = o.l.xs.length := by omega
  subst hie
  rw [List.drop_eq_nil_of_le (Nat.le_refl _), itemsV]
  simp only [bTwo]
  refine ⟨.exit 0, _, by simp -implicitDefEqProofs [x245L1], .inr ⟨by simp, .inr ⟨rfl, rfl, by simp, hb, hbB⟩⟩⟩
theorem zga (c : TextCode code ext) {sv : IV} {inn : Int} (hinn : 0 ≤ inn ∧ inn ≤ 100) {f : Val → ByteArray → ByteArray} {o : Obj} {B : Nat} (hB : B ≤ 100000000) (hI : ItemOK code ext sv (inn + 1) f o.l.xs B) (hl : o.l.xs.length ≤ 1000000) {row : List IV} {off : Nat} (g0 : row[off]? = some (.val (.int .u8 o.k))) (en : ByteArray) (c0 : ByteArray) (h0 : 0 < c0.size) (hB0 : c0.size ≤ B) :
  ∃ e s', den code ext (.loop [0, 1, 2, 7, 23, 24, 25] x245L1) ⟨1, [(0, .optr 0 0), (1, .imm (.ptr row off)), (2, int64 inn), (7, strV en), (23, .imm o.l.iv), (24, int64 o.l.xs.length), (25, int64 0)], bOne sv c0⟩ = some (e, s') ∧ e ≠ .normal ∧
   ((e = .ret ∧ leave s' x245 = some (.tup [], bOne sv (itemsV f (decide (o.k = 5)) o.l.xs 0 c0).1) ∧ (itemsV f (decide (o.k = 5)) o.l.xs 0 c0).2 = true) ∨
    (e = .exit 0 ∧ s' = ⟨1, [(0, .optr 0 0), (1, .imm (.ptr row off)), (2, int64 inn), (7, strV en), (23, .imm o.l.iv), (24, int64 o.l.xs.length), (25, int64 o.l.xs.length), (26, avb false)], bOne sv (itemsV f (decide (o.k = 5)) o.l.xs 0 c0).1⟩ ∧ (itemsV f (decide (o.k = 5)) o.l.xs 0 c0).2 = false ∧ 0 < (itemsV f (decide (o.k = 5)) o.l.xs 0 c0).1.size ∧ (itemsV f (decide (o.k = 5)) o.l.xs 0 c0).1.size ≤ B)) := by
 have hr := o.l.ok
 have hlen := zlu hr
 refine zho (fun n s => ∃ (i : Nat) (b : ByteArray), i + n = o.l.xs.length ∧ 0 < b.size ∧ b.size ≤ B ∧ itemsV f (decide (o.k = 5)) o.l.xs 0 c0 = itemsV f (decide (o.k = 5)) (o.l.xs.drop i) i b ∧
  s.tidy [0, 1, 2, 7, 23, 24, 25] = ⟨1, [(0, .optr 0 0), (1, .imm (.ptr row off)), (2, int64 inn), (7, strV en), (23, .imm o.l.iv), (24, int64 o.l.xs.length), (25, int64 (i : Nat))], bOne sv b⟩) _ ?_ o.l.xs.length _ ⟨0, c0, by omega, h0, hB0, by simp, by simp only [bOne]; simp -implicitDefEqProofs⟩
 rintro n s ⟨i, b, hi, hb, hbB, hg, hst⟩
 rw [hst, hg]
 by_cases hlt : i < o.l.xs.length
 ·have hx : o.l.xs[i]? = some o.l.xs[i] := List.getElem?_eq_getElem hlt
  have hmem : o.l.xs[i] ∈ o.l.xs := List.getElem_mem hlt
  obtain ⟨r2, o2, cap, hiv, hc, hcut, hget⟩ := zlv hr hx
  rw [List.drop_eq_getElem_cons hlt, itemsV] at *
  generalize o.l.xs[i] = v at hget hmem hg
  simp only [tVal] at hget
  have e1 : IntKind.wrap .i64 ((i : Int) + 1) = (i : Int) + 1 := wrapI64 (by omega) (by omega)
  have e2 : IntKind.wrap .i64 (inn + 1) = inn + 1 := wrapI64 (by omega) (by omega)
  have hlg := zhl c sv b
  rw [hiv]
  generalize o.l.iv = liv at *
  by_cases h4 : 4096 < b.size
  ·rw [if_pos h4]
   simp only [bOne, bTwo, h4, decide_true] at hlg ⊢
   refine ⟨.ret, _, by simp -implicitDefEqProofs [x245L1, hlt, hget, hlg]; rfl, .inr ⟨by simp, .inl ⟨rfl, by simp -implicitDefEqProofs [x245], by simp⟩⟩⟩
  ·rw [if_neg h4]
   have hm2 := tmod2 i
   have hlf : decide (4096 < b.size) = false := by simpa using h4
   rw [hlf] at hlg
   have step : ∀ x : ByteArray, x.size ≤ 2 → (hv : callW code ext 246 [.optr 0 0, .agg [.imm (.val (.int .u8 v.k)), int64 v.n], int64 (inn + 1)] (bOne sv (b ++ x)) = some (.tup [], bTwo sv (f v (b ++ x)))) → True := fun _ _ _ => trivial
   by_cases hk : o.k = 5 ∧ i % 2 = 1
   ·have hw := zq6 c sv b keyT hb (by have : keyT.size = 2 := rfl; omega)
    have hv := hI.call v hmem (b ++ keyT) (by rw [zgq]; omega) (by rw [zgq]; omega)
    have hp := hI.pos v hmem (b ++ keyT) (by rw [zgq]; omega)
    have hs := hI.size v hmem (b ++ keyT) (by rw [zgq]; omega)
    obtain ⟨hk5, hodd⟩ := hk
    rw [hk5] at g0
    rw [hodd] at hm2
    simp only [hk5, decide_true, hodd, and_self, if_true] at *
    generalize f v (b ++ keyT) = b2 at *
    simp only [bOne, bTwo, ByteArray.size_append] at hlg hw hv ⊢
    refine ⟨.normal, _, by simp -implicitDefEqProofs [-intBin, q_lss, q_add, q_eql, x245L1, hlt, hget, hlg, g0, hm2, hw, hv, e1, e2]; rfl, .inl ⟨rfl, n - 1, by omega, i + 1, b2, by omega, hp, hs, rfl, by simp -implicitDefEqProofs⟩⟩
   ·by_cases h00 : 0 < i
    ·have hw := zq6 c sv b nextT hb (by have : nextT.size = 2 := rfl; omega)
     have hv := hI.call v hmem (b ++ nextT) (by rw [ziy]; omega) (by rw [ziy]; omega)
     have hp := hI.pos v hmem (b ++ nextT) (by rw [ziy]; omega)
     have hs := hI.size v hmem (b ++ nextT) (by rw [ziy]; omega)
     have h00' : (0 : Int) < i := by omega
     by_cases hk5 : o.k = 5
     ·have heven : i % 2 = 0 := by have : ¬ i % 2 = 1 := fun h => hk ⟨hk5, h⟩; omega
      rw [hk5] at g0
      rw [heven] at hm2
      simp only [hk5, decide_true, heven, h00, if_true] at *
      simp only [show ¬ (0 = 1) by decide, and_false, if_false] at *
      have h01 : 0 < i := by omega
      generalize f v (b ++ nextT) = b2 at *
      simp only [bOne, bTwo, ByteArray.size_append] at hlg hw hv ⊢
      refine ⟨.normal, _, by simp -implicitDefEqProofs [-intBin, q_lss, q_gtr, q_add, q_eql, x245L1, hlt, hget, hlg, g0, hm2, hw, hv, e1, e2, h01, h00']; rfl, .inl ⟨rfl, n - 1, by omega, i + 1, b2, by omega, hp, hs, rfl, by simp -implicitDefEqProofs⟩⟩
     ·have hkd : decide (o.k = 5) = false := by simpa using hk5
      rw [hkd] at *
      simp only [h00, if_true, Bool.false_eq_true, false_and, if_false] at *
      have h01 : 0 < i := by omega
      generalize f v (b ++ nextT) = b2 at *
      simp only [bOne, bTwo, ByteArray.size_append] at hlg hw hv ⊢
      refine ⟨.normal, _, by simp -implicitDefEqProofs [-intBin, q_lss, q_gtr, q_add, q_eql, x245L1, hlt, hget, hlg, g0, hk5, hw, hv, e1, e2, h01, h00']; rfl, .inl ⟨rfl, n - 1, by omega, i + 1, b2, by omega, hp, hs, rfl, by simp -implicitDefEqProofs⟩⟩
    ·have h00' : ¬ (0 : Int) < i := by omega
     have hi0 : i = 0 := by omega
     subst hi0
     have hv := hI.call v hmem b (by omega) (by omega)
     have hp := hI.pos v hmem b (by omega)
     have hs := hI.size v hmem b (by omega)
     have hno : ¬ (decide (o.k = 5) = true ∧ 0 % 2 = 1) := by simp
     rw [if_neg hno, if_neg h00]
     simp only [Nat.zero_mul, Nat.add_zero] at hget
     have hm0 : intBin .rem .i64 0 2 = some (.int .i64 0) := rfl
     have e10 : IntKind.wrap .i64 1 = 1 := rfl
     generalize f v b = b2 at *
     simp only [bOne, bTwo] at hlg hv ⊢
     by_cases hk5 : o.k = 5
     ·rw [hk5] at g0
      refine ⟨.normal, _, by simp -implicitDefEqProofs [-intBin, q_lss, q_gtr, q_add, q_eql, x245L1, hlt, hget, hlg, g0, hm0, hv, e10, e2]; rfl, .inl ⟨rfl, n - 1, by omega, 1, b2, by omega, hp, hs, rfl, by simp -implicitDefEqProofs⟩⟩
     ·refine ⟨.normal, _, by simp -implicitDefEqProofs [-intBin, q_lss, q_gtr, q_add, q_eql, x245L1, hlt, hget, hlg, g0, hk5, hv, e10, e2]; rfl, .inl ⟨rfl, n - 1, by omega, 1, b2, by omega, hp, hs, rfl, by simp -implicitDefEqProofs⟩⟩
 ·have hie : i = o.l.xs.length := by omega
  subst hie
  rw [List.drop_eq_nil_of_le (Nat.le_refl _), itemsV]
  simp only [bOne]
  refine ⟨.exit 0, _, by simp -implicitDefEqProofs [x245L1], .inr ⟨by simp, .inr ⟨rfl, rfl, by simp, hb, hbB⟩⟩⟩
end
end Go.EX


set_option maxHeartbeats 4000000
set_option linter.unusedVariables false
set_option linter.unusedSimpArgs false
namespace Go.EX
section
variable {code : Nat → Option XFun} {ext : Calls'}
theorem zjw (x : ByteArray) (a : UInt8) : (x ++ (⟨#[a]⟩ : ByteArray)).size = x.size + 1 := zoe x ⟨#[a]⟩
theorem zgz (x : ByteArray) : (x ++ lackT).size = x.size + 5 := zoe x lackT
theorem zo9 (c : TextCode code ext) (h245 : code 245 = some x245) {sv : IV} {inn : Int} (hinn : 0 ≤ inn ∧ inn ≤ 100) {f : Val → ByteArray → ByteArray} {o : Obj} {B : Nat} (hB1 : 5001 ≤ B) (hB : B ≤ 100000000) (hI : ItemOK code ext sv (inn + 1) f o.l.xs B) (hl : o.l.xs.length ≤ 1000000) {row : List IV} {off : Nat} (hget : cut row off 5 = some [.val (.int .u8 o.k), .val (.string o.s), o.l.iv, .val (.int .i64 o.room), .val (.int .i64 o.fn)]) (b : ByteArray) (hb : 0 < b.size) (hb5 : b.size ≤ 5000) :
  callW code ext 245 [.optr 0 0, .imm (.ptr row off), int64 inn] (bOne sv b) = some (.tup [], bTwo sv (rowV f o b)) := by
 have g0 : row[off]? = some (.val (.int .u8 o.k)) := by simpa using zcc hget 0 (by omega)
 have g2 : row[off + 2]? = some o.l.iv := zcc hget 2 (by omega)
 have hlen := zlu o.l.ok
 have hm2 := tmod2 o.l.xs.length
 rw [zbe code ext h245]
 unfold rowV
 by_cases hk5 : o.k = 5
 ·have hL := fun c0 h1 h2 => zge c hinn hB hI hl g0 endM c0 h1 h2
  have hw := zq6 c sv b openM hb (by have : (openM).size = 1 := rfl; omega)
  have ho1 : (b ++ openM).size = (b).size + 1 := zjw _ _
  rw [hk5] at g0
  simp only [hk5, decide_true, if_true] at hL ⊢
  unfold x245
  generalize x245L1 = L at hL ⊢
  obtain ⟨e, s', l1, _, h | h⟩ := hL (b ++ openM) (by omega) (by rw [ho1]; omega)
  ·obtain ⟨rfl, l2, l3⟩ := h
   rw [if_pos l3]
   simp only [bOne, bTwo, ByteArray.size_append] at l1 hw
   simp only [bOne, bTwo, ByteArray.size_append]
   simp -implicitDefEqProofs [-intBin, -leave, q_eql, g0, g2, hlen, hw, l1, hk5]
   exact l2
  ·obtain ⟨rfl, rfl, l3, l4, l5⟩ := h
   rw [if_neg (by rw [l3]; decide)]
   generalize (itemsV f true o.l.xs 0 (b ++ openM)).1 = c1 at *
   by_cases hodd : o.l.xs.length % 2 = 1
   ·have hw1 := zq6 c sv c1 lackT l4 (by have : lackT.size = 5 := rfl; omega)
    have hw2 := zq6 c sv (c1 ++ lackT) endM (by rw [zgz]; omega) (by rw [zgz]; have : endM.size = 1 := rfl; omega)
    simp only [hodd, and_self, if_true]
    rw [hodd] at hm2
    simp only [bOne, bTwo, ByteArray.size_append] at l1 hw hw1 hw2 ⊢
    simp -implicitDefEqProofs [-intBin, q_eql, g0, g2, hlen, hw, l1, hm2, hw1, hw2]
   ·have hw2 := zq6 c sv c1 endM l4 (by have : endM.size = 1 := rfl; omega)
    have heven : o.l.xs.length % 2 = 0 := by omega
    simp only [hodd, and_false, if_false]
    rw [heven] at hm2
    simp only [bOne, bTwo, ByteArray.size_append] at l1 hw hw2 ⊢
    simp -implicitDefEqProofs [-intBin, q_eql, g0, g2, hlen, hw, l1, hm2, hw2]
 ·have hL := fun c0 h1 h2 => zge c hinn hB hI hl g0 endL c0 h1 h2
  have hw := zq6 c sv b openL hb (by have : (openL).size = 1 := rfl; omega)
  have ho1 : (b ++ openL).size = (b).size + 1 := zjw _ _
  have hkd : decide (o.k = 5) = false := by simpa using hk5
  simp only [hkd, Bool.false_eq_true, if_false, false_and] at hL ⊢
  unfold x245
  generalize x245L1 = L at hL ⊢
  obtain ⟨e, s', l1, _, h | h⟩ := hL (b ++ openL) (by omega) (by rw [ho1]; omega)
  ·obtain ⟨rfl, l2, l3⟩ := h
   rw [if_pos l3]
   simp only [bOne, bTwo, ByteArray.size_append] at l1 hw
   simp only [bOne, bTwo, ByteArray.size_append]
   simp -implicitDefEqProofs [-intBin, -leave, q_eql, g0, g2, hlen, hw, l1, hk5]
   exact l2
  ·obtain ⟨rfl, rfl, l3, l4, l5⟩ := h
   rw [if_neg (by rw [l3]; decide)]
   generalize (itemsV f false o.l.xs 0 (b ++ openL)).1 = c1 at *
   have hw2 := zq6 c sv c1 endL l4 (by have : endL.size = 1 := rfl; omega)
   simp only [bOne, bTwo, ByteArray.size_append] at l1 hw hw2 ⊢
   simp -implicitDefEqProofs [-intBin, q_eql, g0, g2, hlen, hw, l1, hw2, hk5]
theorem zo8 (c : TextCode code ext) (h245 : code 245 = some x245) {sv : IV} {inn : Int} (hinn : 0 ≤ inn ∧ inn ≤ 100) {f : Val → ByteArray → ByteArray} {o : Obj} {B : Nat} (hB1 : 5001 ≤ B) (hB : B ≤ 100000000) (hI : ItemOK code ext sv (inn + 1) f o.l.xs B) (hl : o.l.xs.length ≤ 1000000) {row : List IV} {off : Nat} (hget : cut row off 5 = some [.val (.int .u8 o.k), .val (.string o.s), o.l.iv, .val (.int .i64 o.room), .val (.int .i64 o.fn)])  :
  callW code ext 245 [.optr 0 0, .imm (.ptr row off), int64 inn] (bNil false sv) = some (.tup [], bOne sv (rowV f o ByteArray.empty)) := by
 have g0 : row[off]? = some (.val (.int .u8 o.k)) := by simpa using zcc hget 0 (by omega)
 have g2 : row[off + 2]? = some o.l.iv := zcc hget 2 (by omega)
 have hlen := zlu o.l.ok
 have hm2 := tmod2 o.l.xs.length
 rw [zbe code ext h245]
 unfold rowV
 by_cases hk5 : o.k = 5
 ·have hL := fun c0 h1 h2 => zga c hinn hB hI hl g0 endM c0 h1 h2
  have hw := zq4 c false sv openM (by decide) (by decide)
  have ho1 : (ByteArray.empty ++ openM).size = (ByteArray.empty).size + 1 := zjw _ _
  rw [hk5] at g0
  simp only [hk5, decide_true, if_true] at hL ⊢
  have hE : (ByteArray.empty ++ openM) = openM := by rfl
  rw [hE]
  unfold x245
  generalize x245L1 = L at hL ⊢
  obtain ⟨e, s', l1, _, h | h⟩ := hL (openM) (by decide) (by have : (openM).size = 1 := rfl; omega)
  ·obtain ⟨rfl, l2, l3⟩ := h
   rw [if_pos l3]
   simp only [bNil, bAddr, bOne, bTwo, ByteArray.size_append] at l1 hw
   simp only [bNil, bAddr, bOne, bTwo, ByteArray.size_append]
   simp -implicitDefEqProofs [-intBin, -leave, q_eql, g0, g2, hlen, hw, l1, hk5]
   exact l2
  ·obtain ⟨rfl, rfl, l3, l4, l5⟩ := h
   rw [if_neg (by rw [l3]; decide)]
   generalize (itemsV f true o.l.xs 0 (openM)).1 = c1 at *
   by_cases hodd : o.l.xs.length % 2 = 1
   ·have hw1 := zq6 c sv c1 lackT l4 (by have : lackT.size = 5 := rfl; omega)
    have hw2 := zq6 c sv (c1 ++ lackT) endM (by rw [zgz]; omega) (by rw [zgz]; have : endM.size = 1 := rfl; omega)
    simp only [hodd, and_self, if_true]
    rw [hodd] at hm2
    simp only [bNil, bAddr, bOne, bTwo, ByteArray.size_append] at l1 hw hw1 hw2 ⊢
    simp -implicitDefEqProofs [-intBin, q_eql, g0, g2, hlen, hw, l1, hm2, hw1, hw2]
   ·have hw2 := zq6 c sv c1 endM l4 (by have : endM.size = 1 := rfl; omega)
    have heven : o.l.xs.length % 2 = 0 := by omega
    simp only [hodd, and_false, if_false]
    rw [heven] at hm2
    simp only [bNil, bAddr, bOne, bTwo, ByteArray.size_append] at l1 hw hw2 ⊢
    simp -implicitDefEqProofs [-intBin, q_eql, g0, g2, hlen, hw, l1, hm2, hw2]
 ·have hL := fun c0 h1 h2 => zga c hinn hB hI hl g0 endL c0 h1 h2
  have hw := zq4 c false sv openL (by decide) (by decide)
  have ho1 : (ByteArray.empty ++ openL).size = (ByteArray.empty).size + 1 := zjw _ _
  have hkd : decide (o.k = 5) = false := by simpa using hk5
  simp only [hkd, Bool.false_eq_true, if_false, false_and] at hL ⊢
  have hE : (ByteArray.empty ++ openL) = openL := by rfl
  rw [hE]
  unfold x245
  generalize x245L1 = L at hL ⊢
  obtain ⟨e, s', l1, _, h | h⟩ := hL (openL) (by decide) (by have : (openL).size = 1 := rfl; omega)
  ·obtain ⟨rfl, l2, l3⟩ := h
   rw [if_pos l3]
   simp only [bNil, bAddr, bOne, bTwo, ByteArray.size_append] at l1 hw
   simp only [bNil, bAddr, bOne, bTwo, ByteArray.size_append]
   simp -implicitDefEqProofs [-intBin, -leave, q_eql, g0, g2, hlen, hw, l1, hk5]
   exact l2
  ·obtain ⟨rfl, rfl, l3, l4, l5⟩ := h
   rw [if_neg (by rw [l3]; decide)]
   generalize (itemsV f false o.l.xs 0 (openL)).1 = c1 at *
   have hw2 := zq6 c sv c1 endL l4 (by have : endL.size = 1 := rfl; omega)
   simp only [bNil, bAddr, bOne, bTwo, ByteArray.size_append] at l1 hw hw2 ⊢
   simp -implicitDefEqProofs [-intBin, q_eql, g0, g2, hlen, hw, l1, hw2, hk5]
end
end Go.EX

