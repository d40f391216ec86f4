import Derived.Test.YtmpldniokcfmbaaDoorK9
import Derived.Test.YtmpldniokcfmbaaDoorK10
namespace Go.EX
def x436 : XFun :=
 ⟨[.tmp 2],(.seq (.region [0] [o0 2 (.mv (.c (.pointer none)))]) (.seq (.region [3] [o0 6 (.mv (.t 0)),
 o0 7 (.call .own 567 [.t 6]),
 o0 5 (.mv (.t 7)),
 o0 8 (.extract (.t 5) 0),
 o0 9 (.extract (.t 5) 1),
 o0 3 (.mv (.t 8)),
 o0 4 (.mv (.t 9))]) (.seq (.region [2] [o0 10 (.mv (.t 3)),
 o0 2 (.mv (.t 10))]) .ret)))⟩
def x599L1 : XCode :=
 (.seq (.seq (.region [1, 4, 6, 7, 8, 9, 10, 56] [o0 54 (.mv (.t 10)),
 o0 55 (.mv (.t 8)),
 o0 56 (.bin .geq (.t 54) (.t 55))]) (.cond (.t 56) .skip (.exit 3))) (.seq (.block 4 (.region [1, 4, 6, 7, 8, 9, 10] [o0 59 (.mv (.t 9)),
 o0 60 (.bin .shl (.t 59) (.c (.int .u64 8))),
 o0 61 (.mv (.t 1)),
 o0 62 (.mv (.t 10)),
 o0 63 (.idxS (.t 61) (.t 62)),
 o0 64 (.conv .u64 (.t 63)),
 o0 65 (.bin .or (.t 60) (.t 64)),
 o0 9 (.mv (.t 65))])) (.region [1, 4, 6, 7, 8, 9, 10] [o0 57 (.mv (.t 10)),
 o0 58 (.bin .sub (.t 57) (.c (.int .i64 1))),
 o0 10 (.mv (.t 58))])))
def x599L2 : XCode :=
 (.seq (.seq (.region [1, 4, 6, 7, 8, 45] [o0 42 (.mv (.t 8)),
 o0 43 (.mv (.t 1)),
 o0 44 (.lenS (.t 43)),
 o0 45 (.bin .lss (.t 42) (.t 44))]) (.cond (.t 45) .skip (.exit 1))) (.seq (.block 2 (.seq (.region [1, 4, 6, 7, 8, 9] [o0 9 (.mv (.c (.int .u64 0)))]) (.seq (.seq (.region [1, 4, 6, 7, 8, 9, 10] [o0 48 (.mv (.t 8)),
 o0 49 (.bin .add (.t 48) (.c (.int .i64 8))),
 o0 50 (.mv (.t 1)),
 o0 51 (.lenS (.t 50)),
 o0 52 (.minmax true (.t 49) (.t 51)),
 o0 53 (.bin .sub (.t 52) (.c (.int .i64 1))),
 o0 10 (.mv (.t 53))]) (.block 3 (.loop [1, 4, 6, 7, 8, 9, 10] x599L1))) (.region [1, 4, 6, 7, 8] [o0 66 (.fieldA 0 (.t 6)),
 o0 67 (.load none (.t 66)),
 o0 68 (.fieldA 1 (.t 6)),
 o0 69 (.load none (.t 68)),
 o0 70 (.mv (.t 8)),
 o0 71 (.bin .quo (.t 70) (.c (.int .i64 8))),
 o0 72 (.bin .add (.c (.int .i64 1)) (.t 71)),
 o0 73 (.mv (.t 9)),
 o0 74 (.call .share 178 [(.t 67),(.t 69),(.t 72),(.t 73)])])))) (.region [1, 4, 6, 7, 8] [o0 46 (.mv (.t 8)),
 o0 47 (.bin .add (.t 46) (.c (.int .i64 8))),
 o0 8 (.mv (.t 47))])))
def x599 : XFun :=
 ⟨[.cell 4 (some 2),.tmp 5],(.seq (.region [0, 1, 4] [o0 4 (.alloc [(.int .u8 0),(.int .i64 0)]),
 o0 5 (.mv (.c (.int .i64 0)))]) (.seq (.block 0 (.seq (.region [0, 1, 4, 11] [o0 12 (.mv (.t 0)),
 o0 13 (.call .peek 611 [.t 12]),
 o0 11 (.mv (.t 13))]) (.cond (.t 11) (.seq (.region [4, 5] [o0 14 (.build [(.int .u8 0),(.int .i64 0)] []),
 o2 (.store 2 (.t 4) (.t 14)),
 o0 5 (.mv (.c (.int .i64 2)))]) .ret) (.seq (.region [0, 1, 4, 15] [o0 16 (.mv (.t 1)),
 o0 17 (.lenS (.t 16)),
 o0 18 (.bin .gtr (.t 17) (.c (.int .i64 4096))),
 o0 15 (.mv (.t 18))]) (.cond (.t 15) (.seq (.region [4, 5] [o0 19 (.build [(.int .u8 0),(.int .i64 0)] []),
 o2 (.store 2 (.t 4) (.t 19)),
 o0 5 (.mv (.c (.int .i64 3)))]) .ret) .skip))))) (.seq (.region [1, 4, 6, 7] [o0 21 (.mv (.t 0)),
 o0 22 (.mv (.t 1)),
 o0 23 (.lenS (.t 22)),
 o0 24 (.bin .add (.t 23) (.c (.int .i64 7))),
 o0 25 (.bin .quo (.t 24) (.c (.int .i64 8))),
 o0 26 (.bin .add (.c (.int .i64 1)) (.t 25)),
 o0 27 (.call .share 615 [(.t 21),(.c (.int .u8 3)),(.t 26)]),
 o0 20 (.mv (.t 27)),
 o0 28 (.extract (.t 20) 0),
 o0 29 (.extract (.t 20) 1),
 o0 6 (.alloc [(.pointer none),(.int .i64 0),(.int .u8 0)]),
 o2 (.store 3 (.t 6) (.t 28)),
 o0 7 (.mv (.t 29))]) (.seq (.seq (.region [1, 4, 6, 7, 31] [o0 30 (.mv (.t 7)),
 o0 31 (.bin .neq (.t 30) (.c (.int .i64 0)))]) (.cond (.t 31) (.seq (.region [4, 5] [o0 32 (.build [(.int .u8 0),(.int .i64 0)] []),
 o0 33 (.mv (.t 7)),
 o2 (.store 2 (.t 4) (.t 32)),
 o0 5 (.mv (.t 33))]) .ret) .skip)) (.seq (.region [1, 4, 6, 7] [o0 34 (.fieldA 0 (.t 6)),
 o0 35 (.load none (.t 34)),
 o0 36 (.fieldA 1 (.t 6)),
 o0 37 (.load none (.t 36)),
 o0 38 (.mv (.t 1)),
 o0 39 (.lenS (.t 38)),
 o0 40 (.conv .u64 (.t 39)),
 o0 41 (.call .share 178 [(.t 35),(.t 37),(.c (.int .i64 0)),(.t 40)])]) (.seq (.seq (.region [1, 4, 6, 7, 8] [o0 8 (.mv (.c (.int .i64 0)))]) (.block 1 (.loop [1, 4, 6, 7, 8] x599L2))) (.seq (.region [4, 5] [o0 75 (.load (some 3) (.t 6)),
 o0 76 (.mv (.t 7)),
 o0 77 (.call .peek 618 [(.t 75),(.t 76)]),
 o0 78 (.extract (.t 77) 0),
 o0 79 (.extract (.t 77) 1),
 o2 (.store 2 (.t 4) (.t 78)),
 o0 5 (.mv (.t 79))]) .ret)))))))⟩
def x434 : XFun :=
 ⟨[.tmp 0],(.seq (.region [] [o0 0 (.mv (.c (.bool false)))]) (.seq (.region [1] [o0 17 (.call .own 567 [(.c (.int .i64 60))]),
 o0 16 (.mv (.t 17)),
 o0 18 (.extract (.t 16) 0),
 o0 19 (.extract (.t 16) 1),
 o0 1 (.mv (.t 18)),
 o0 2 (.mv (.t 19))]) (.seq (.region [1, 3, 4] [o0 21 (.mv (.t 1)),
 o0 22 (.call .share 599 [(.t 21),(.c (.string ⟨#[104, 101, 108, 108, 111, 44, 32, 121, 111, 117]⟩))]),
 o0 20 (.mv (.t 22)),
 o0 23 (.extract (.t 20) 0),
 o0 24 (.extract (.t 20) 1),
 o0 3 (.alloc [(.int .u8 0),(.int .i64 0)]),
 o2 (.store 2 (.t 3) (.t 23)),
 o0 4 (.mv (.t 24))]) (.seq (.region [1, 3, 4, 5, 6] [o0 26 (.mv (.t 1)),
 o0 27 (.call .view 437 [(.c (.int .i64 1))]),
 o0 28 (.load (some 2) (.t 3)),
 o0 29 (.buildSlice 2 [(.int .u8 0),(.int .i64 0)] 2 [(0, 2,(.t 27)),(2, 2,(.t 28))]),
 o0 30 (.call .touch 597 [(.t 26),(.t 29)]),
 o0 25 (.mv (.t 30)),
 o0 31 (.extract (.t 25) 0),
 o0 32 (.extract (.t 25) 1),
 o0 5 (.alloc [(.int .u8 0),(.int .i64 0)]),
 o2 (.store 2 (.t 5) (.t 31)),
 o0 6 (.mv (.t 32))]) (.seq (.region [1, 3, 4, 5, 6, 7, 8] [o0 34 (.mv (.t 1)),
 o0 35 (.call .view 437 [(.c (.int .i64 1))]),
 o0 36 (.call .view 437 [(.c (.int .i64 2))]),
 o0 37 (.call .view 437 [(.c (.int .i64 1))]),
 o0 38 (.call .view 437 [(.c (.int .i64 3))]),
 o0 39 (.buildSlice 2 [(.int .u8 0),(.int .i64 0)] 4 [(0, 2,(.t 35)),(2, 2,(.t 36)),(4, 2,(.t 37)),(6, 2,(.t 38))]),
 o0 40 (.call .share 598 [(.t 34),(.t 39)]),
 o0 33 (.mv (.t 40)),
 o0 41 (.extract (.t 33) 0),
 o0 42 (.extract (.t 33) 1),
 o0 7 (.alloc [(.int .u8 0),(.int .i64 0)]),
 o2 (.store 2 (.t 7) (.t 41)),
 o0 8 (.mv (.t 42))]) (.seq (.region [1, 3, 4, 5, 6, 7, 8, 9, 10] [o0 44 (.mv (.t 1)),
 o0 45 (.load (some 2) (.t 3)),
 o0 46 (.call .peek 605 [(.t 44),(.t 45)]),
 o0 43 (.mv (.t 46)),
 o0 47 (.extract (.t 43) 0),
 o0 48 (.extract (.t 43) 1),
 o0 9 (.mv (.t 47)),
 o0 10 (.mv (.t 48))]) (.seq (.region [1, 3, 4, 5, 6, 7, 8, 9, 10, 11, 12] [o0 50 (.mv (.t 1)),
 o0 51 (.load (some 2) (.t 7)),
 o0 52 (.call .view 437 [(.c (.int .i64 1))]),
 o0 53 (.call .touch 592 [(.t 50),(.t 51),(.t 52)]),
 o0 49 (.mv (.t 53)),
 o0 54 (.extract (.t 49) 0),
 o0 55 (.extract (.t 49) 1),
 o0 11 (.alloc [(.int .u8 0),(.int .i64 0)]),
 o2 (.store 2 (.t 11) (.t 54)),
 o0 12 (.mv (.t 55))]) (.seq (.region [1, 3, 4, 5, 6, 7, 8, 9, 10, 11, 12, 14] [o0 57 (.mv (.t 1)),
 o0 58 (.load (some 2) (.t 5)),
 o0 59 (.call .view 437 [(.c (.int .i64 2))]),
 o0 60 (.call .touch 592 [(.t 57),(.t 58),(.t 59)]),
 o0 56 (.mv (.t 60)),
 o0 61 (.extract (.t 56) 0),
 o0 62 (.extract (.t 56) 1),
 o0 13 (.alloc [(.int .u8 0),(.int .i64 0)]),
 o2 (.store 2 (.t 13) (.t 61)),
 o0 14 (.mv (.t 62))]) (.seq (.region [1, 3, 4, 5, 6, 7, 8, 9, 10, 11, 12, 14, 15] [o0 63 (.mv (.t 1)),
 o0 64 (.load (some 2) (.t 5)),
 o0 65 (.call .view 437 [(.c (.int .i64 2))]),
 o0 66 (.call .view 437 [(.c (.int .i64 9))]),
 o0 67 (.call .share 602 [(.t 63),(.t 64),(.t 65),(.t 66)]),
 o0 15 (.mv (.t 67))]) (.seq (.region [0] [o0 68 (.mv (.t 4)),
 o0 69 (.bin .eql (.t 68) (.c (.int .i64 0))),
 o0 70 (.mv (.t 69)),
 o1 71 70 true (.mv (.t 6)),
 o1 72 70 true (.bin .eql (.t 71) (.c (.int .i64 0))),
 o0 73 (.pick (.t 70) (.t 72) (.c (.bool false))),
 o0 74 (.mv (.t 73)),
 o1 75 74 true (.mv (.t 8)),
 o1 76 74 true (.bin .eql (.t 75) (.c (.int .i64 0))),
 o0 77 (.pick (.t 74) (.t 76) (.c (.bool false))),
 o0 78 (.mv (.t 77)),
 o1 79 78 true (.mv (.t 10)),
 o1 80 78 true (.bin .eql (.t 79) (.c (.int .i64 0))),
 o0 81 (.pick (.t 78) (.t 80) (.c (.bool false))),
 o0 82 (.mv (.t 81)),
 o1 83 82 true (.mv (.t 12)),
 o1 84 82 true (.bin .eql (.t 83) (.c (.int .i64 0))),
 o0 85 (.pick (.t 82) (.t 84) (.c (.bool false))),
 o0 86 (.mv (.t 85)),
 o1 87 86 true (.mv (.t 14)),
 o1 88 86 true (.bin .eql (.t 87) (.c (.int .i64 1))),
 o0 89 (.pick (.t 86) (.t 88) (.c (.bool false))),
 o0 90 (.mv (.t 89)),
 o1 91 90 true (.mv (.t 15)),
 o1 92 90 true (.bin .eql (.t 91) (.c (.int .i64 0))),
 o0 93 (.pick (.t 90) (.t 92) (.c (.bool false))),
 o0 94 (.mv (.t 93)),
 o1 95 94 true (.fieldA 1 (.t 3)),
 o1 96 94 true (.load none (.t 95)),
 o1 97 94 true (.bin .eql (.t 96) (.c (.int .i64 0))),
 o0 98 (.pick (.t 94) (.t 97) (.c (.bool false))),
 o0 99 (.mv (.t 98)),
 o1 100 99 true (.fieldA 1 (.t 5)),
 o1 101 99 true (.load none (.t 100)),
 o1 102 99 true (.bin .eql (.t 101) (.c (.int .i64 4))),
 o0 103 (.pick (.t 99) (.t 102) (.c (.bool false))),
 o0 104 (.mv (.t 103)),
 o1 105 104 true (.fieldA 1 (.t 7)),
 o1 106 104 true (.load none (.t 105)),
 o1 107 104 true (.bin .eql (.t 106) (.c (.int .i64 12))),
 o0 108 (.pick (.t 104) (.t 107) (.c (.bool false))),
 o0 109 (.mv (.t 108)),
 o1 110 109 true (.mv (.t 9)),
 o1 111 109 true (.bin .eql (.t 110) (.c (.string ⟨#[104, 101, 108, 108, 111, 44, 32, 121, 111, 117]⟩))),
 o0 112 (.pick (.t 109) (.t 111) (.c (.bool false))),
 o0 113 (.mv (.t 112)),
 o1 114 113 true (.fieldA 1 (.t 11)),
 o1 115 113 true (.load none (.t 114)),
 o1 116 113 true (.bin .eql (.t 115) (.c (.int .i64 3))),
 o0 117 (.pick (.t 113) (.t 116) (.c (.bool false))),
 o0 118 (.mv (.t 117)),
 o1 119 118 true (.mv (.t 1)),
 o1 120 118 true (.call .peek 176 [.t 119]),
 o1 121 118 true (.bin .eql (.t 120) (.c (.int .i64 33))),
 o0 122 (.pick (.t 118) (.t 121) (.c (.bool false))),
 o0 0 (.mv (.t 122))]) .ret))))))))))⟩
def x605 : XFun :=
 ⟨[.tmp 4,.tmp 5],(.seq (.region [0, 3] [o0 3 (.box 2 (.t 1)),
 o0 4 (.mv (.c (.string .empty))),
 o0 5 (.mv (.c (.int .i64 0)))]) (.seq (.region [6, 7] [o0 9 (.mv (.t 0)),
 o0 10 (.load (some 2) (.t 3)),
 o0 11 (.buildSlice 1 [(.int .u8 0)] 1 [(0, 1,(.c (.int .u8 3)))]),
 o0 12 (.call .share 610 [(.t 9),(.t 10),(.t 11)]),
 o0 8 (.mv (.t 12)),
 o0 13 (.extract (.t 8) 0),
 o0 14 (.extract (.t 8) 1),
 o0 6 (.alloc [(.pointer none),(.int .i64 0),(.int .u8 0)]),
 o2 (.store 3 (.t 6) (.t 13)),
 o0 7 (.mv (.t 14))]) (.seq (.seq (.region [6, 7, 16] [o0 15 (.mv (.t 7)),
 o0 16 (.bin .neq (.t 15) (.c (.int .i64 0)))]) (.cond (.t 16) (.seq (.region [4, 5] [o0 17 (.mv (.t 7)),
 o0 4 (.mv (.c (.string .empty))),
 o0 5 (.mv (.t 17))]) .ret) .skip)) (.seq (.region [4, 5] [o0 18 (.load (some 3) (.t 6)),
 o0 19 (.call .peek 282 [.t 18]),
 o0 4 (.mv (.t 19)),
 o0 5 (.mv (.c (.int .i64 0)))]) .ret))))⟩
def x594 : XFun :=
 ⟨[.tmp 4,.tmp 5],(.seq (.region [0, 3] [o0 3 (.box 2 (.t 1)),
 o0 4 (.mv (.c (.int .i64 0))),
 o0 5 (.mv (.c (.int .i64 0)))]) (.seq (.region [6, 7] [o0 10 (.mv (.t 0)),
 o0 11 (.load (some 2) (.t 3)),
 o0 12 (.buildSlice 1 [(.int .u8 0)] 3 [(0, 1,(.c (.int .u8 3))),(1, 1,(.c (.int .u8 4))),(2, 1,(.c (.int .u8 5)))]),
 o0 13 (.call .share 610 [(.t 10),(.t 11),(.t 12)]),
 o0 9 (.mv (.t 13)),
 o0 14 (.extract (.t 9) 0),
 o0 15 (.extract (.t 9) 1),
 o0 6 (.alloc [(.pointer none),(.int .i64 0),(.int .u8 0)]),
 o2 (.store 3 (.t 6) (.t 14)),
 o0 7 (.mv (.t 15))]) (.seq (.seq (.region [6, 7, 17] [o0 16 (.mv (.t 7)),
 o0 17 (.bin .neq (.t 16) (.c (.int .i64 0)))]) (.cond (.t 17) (.seq (.region [4, 5] [o0 18 (.mv (.t 7)),
 o0 4 (.mv (.c (.int .i64 0))),
 o0 5 (.mv (.t 18))]) .ret) .skip)) (.seq (.region [6, 8] [o0 19 (.load (some 3) (.t 6)),
 o0 20 (.call .peek 286 [(.t 19),(.c (.int .i64 0))]),
 o0 21 (.conv .i64 (.t 20)),
 o0 8 (.mv (.t 21))]) (.seq (.seq (.region [8, 24] [o0 22 (.fieldA 2 (.t 6)),
 o0 23 (.load none (.t 22)),
 o0 24 (.bin .eql (.t 23) (.c (.int .u8 5)))]) (.cond (.t 24) (.region [8] [o0 25 (.mv (.t 8)),
 o0 26 (.bin .quo (.t 25) (.c (.int .i64 2))),
 o0 8 (.mv (.t 26))]) .skip)) (.seq (.region [4, 5] [o0 27 (.mv (.t 8)),
 o0 4 (.mv (.t 27)),
 o0 5 (.mv (.c (.int .i64 0)))]) .ret))))))⟩
def x603 : XFun :=
 ⟨[.tmp 6],(.seq (.region [0, 4, 5] [o0 4 (.box 2 (.t 1)),
 o0 5 (.box 2 (.t 2)),
 o0 6 (.mv (.c (.bool false)))]) (.seq (.region [6] [o0 7 (.mv (.t 0)),
 o0 8 (.call .peek 611 [.t 7]),
 o0 9 (.un .not (.t 8)),
 o0 10 (.mv (.t 9)),
 o1 11 10 true (.fieldA 0 (.t 4)),
 o1 12 10 true (.load none (.t 11)),
 o1 13 10 true (.fieldA 0 (.t 5)),
 o1 14 10 true (.load none (.t 13)),
 o1 15 10 true (.bin .eql (.t 12) (.t 14)),
 o0 16 (.pick (.t 10) (.t 15) (.c (.bool false))),
 o0 17 (.mv (.t 16)),
 o1 18 17 true (.load (some 2) (.t 4)),
 o1 19 17 true (.load (some 2) (.t 5)),
 o1 20 17 true (.eqCells false [0, 0] (.t 18) (.t 19)),
 o1 21 17 true (.mv (.t 20)),
 o1 22 21 false (.mv (.t 0)),
 o1 23 21 false (.load (some 2) (.t 4)),
 o1 24 21 false (.call .peek 616 [(.t 22),(.t 23)]),
 o1 25 21 false (.mv (.t 0)),
 o1 26 21 false (.load (some 2) (.t 5)),
 o1 27 21 false (.call .peek 616 [(.t 25),(.t 26)]),
 o1 28 21 false (.eqCells false [0, 0, 2] (.t 24) (.t 27)),
 o1 29 17 true (.pick (.t 21) (.c (.bool true)) (.t 28)),
 o0 30 (.pick (.t 17) (.t 29) (.c (.bool false))),
 o0 6 (.mv (.t 30))]) .ret))⟩
def x592 : XFun :=
 ⟨[.cell 6 (some 2),.tmp 7],(.seq (.region [0, 4, 5, 6] [o0 4 (.box 2 (.t 1)),
 o0 5 (.box 2 (.t 2)),
 o0 6 (.alloc [(.int .u8 0),(.int .i64 0)]),
 o0 7 (.mv (.c (.int .i64 0)))]) (.seq (.region [0, 5, 6, 8, 9] [o0 14 (.mv (.t 0)),
 o0 15 (.load (some 2) (.t 4)),
 o0 16 (.buildSlice 1 [(.int .u8 0)] 3 [(0, 1,(.c (.int .u8 3))),(1, 1,(.c (.int .u8 4))),(2, 1,(.c (.int .u8 5)))]),
 o0 17 (.call .share 610 [(.t 14),(.t 15),(.t 16)]),
 o0 13 (.mv (.t 17)),
 o0 18 (.extract (.t 13) 0),
 o0 19 (.extract (.t 13) 1),
 o0 8 (.alloc [(.pointer none),(.int .i64 0),(.int .u8 0)]),
 o2 (.store 3 (.t 8) (.t 18)),
 o0 9 (.mv (.t 19))]) (.seq (.seq (.region [0, 5, 6, 8, 9, 21] [o0 20 (.mv (.t 9)),
 o0 21 (.bin .neq (.t 20) (.c (.int .i64 0)))]) (.cond (.t 21) (.seq (.region [6, 7] [o0 22 (.build [(.int .u8 0),(.int .i64 0)] []),
 o0 23 (.mv (.t 9)),
 o2 (.store 2 (.t 6) (.t 22)),
 o0 7 (.mv (.t 23))]) .ret) .skip)) (.seq (.region [0, 5, 6, 8, 10] [o0 25 (.load (some 3) (.t 8)),
 o0 26 (.call .share 276 [.t 25]),
 o0 24 (.mv (.t 26)),
 o0 27 (.extract (.t 24) 0),
 o0 28 (.extract (.t 24) 1),
 o0 10 (.alloc [(.pointer none),(.int .i64 0),(.int .u8 0)]),
 o2 (.store 3 (.t 10) (.t 27)),
 o0 11 (.mv (.t 28))]) (.seq (.block 0 (.seq (.region [0, 5, 6, 8, 10, 29] [o0 30 (.fieldA 2 (.t 8)),
 o0 31 (.load none (.t 30)),
 o0 32 (.bin .eql (.t 31) (.c (.int .u8 5))),
 o0 29 (.mv (.t 32))]) (.cond (.t 29) (.seq (.region [6, 10, 12] [o0 33 (.load (some 3) (.t 8)),
 o0 34 (.load (some 2) (.t 5)),
 o0 35 (.call .peek 274 [(.t 33),(.t 34)]),
 o0 12 (.mv (.t 35))]) (.seq (.seq (.region [6, 10, 12, 37] [o0 36 (.mv (.t 12)),
 o0 37 (.bin .lss (.t 36) (.c (.int .i64 0)))]) (.cond (.t 37) (.seq (.region [6, 7] [o0 38 (.build [(.int .u8 0),(.int .i64 0)] []),
 o2 (.store 2 (.t 6) (.t 38)),
 o0 7 (.mv (.c (.int .i64 0)))]) .ret) .skip)) (.seq (.region [6, 7] [o0 39 (.load (some 3) (.t 10)),
 o0 40 (.mv (.t 12)),
 o0 41 (.bin .mul (.c (.int .i64 2)) (.t 40)),
 o0 42 (.call .peek 283 [(.t 39),(.t 41)]),
 o2 (.store 2 (.t 6) (.t 42)),
 o0 7 (.mv (.c (.int .i64 0)))]) .ret))) (.seq (.region [0, 5, 6, 8, 10, 43] [o0 44 (.fieldA 0 (.t 5)),
 o0 45 (.load none (.t 44)),
 o0 46 (.bin .neq (.t 45) (.c (.int .u8 2))),
 o0 43 (.mv (.t 46))]) (.cond (.t 43) (.seq (.region [6, 7] [o0 47 (.build [(.int .u8 0),(.int .i64 0)] []),
 o2 (.store 2 (.t 6) (.t 47)),
 o0 7 (.mv (.c (.int .i64 9)))]) .ret) (.seq (.region [0, 5, 6, 8, 10, 48] [o0 49 (.fieldA 1 (.t 5)),
 o0 50 (.load none (.t 49)),
 o0 51 (.bin .lss (.t 50) (.c (.int .i64 0))),
 o0 52 (.mv (.t 51)),
 o1 53 52 false (.fieldA 1 (.t 5)),
 o1 54 52 false (.load none (.t 53)),
 o1 55 52 false (.load (some 3) (.t 8)),
 o1 56 52 false (.call .peek 286 [(.t 55),(.c (.int .i64 0))]),
 o1 57 52 false (.conv .i64 (.t 56)),
 o1 58 52 false (.bin .geq (.t 54) (.t 57)),
 o0 59 (.pick (.t 52) (.c (.bool true)) (.t 58)),
 o0 48 (.mv (.t 59))]) (.cond (.t 48) (.seq (.region [6, 7] [o0 60 (.build [(.int .u8 0),(.int .i64 0)] []),
 o2 (.store 2 (.t 6) (.t 60)),
 o0 7 (.mv (.c (.int .i64 1)))]) .ret) (.seq (.region [0, 5, 6, 8, 10, 61] [o0 62 (.fieldA 2 (.t 8)),
 o0 63 (.load none (.t 62)),
 o0 64 (.bin .eql (.t 63) (.c (.int .u8 3))),
 o0 61 (.mv (.t 64))]) (.cond (.t 61) (.seq (.region [6, 7] [o0 65 (.mv (.t 0)),
 o0 66 (.load (some 3) (.t 8)),
 o0 67 (.call .peek 282 [.t 66]),
 o0 68 (.fieldA 1 (.t 5)),
 o0 69 (.load none (.t 68)),
 o0 70 (.fieldA 1 (.t 5)),
 o0 71 (.load none (.t 70)),
 o0 72 (.bin .add (.t 71) (.c (.int .i64 1))),
 o0 73 (.sliceS (.t 67) (some (.t 69)) (some (.t 72))),
 o0 74 (.call .touch 599 [(.t 65),(.t 73)]),
 o0 75 (.extract (.t 74) 0),
 o0 76 (.extract (.t 74) 1),
 o2 (.store 2 (.t 6) (.t 75)),
 o0 7 (.mv (.t 76))]) .ret) .skip))))))))) (.seq (.region [6, 7] [o0 77 (.load (some 3) (.t 10)),
 o0 78 (.fieldA 1 (.t 5)),
 o0 79 (.load none (.t 78)),
 o0 80 (.bin .mul (.c (.int .i64 2)) (.t 79)),
 o0 81 (.call .peek 283 [(.t 77),(.t 80)]),
 o2 (.store 2 (.t 6) (.t 81)),
 o0 7 (.mv (.c (.int .i64 0)))]) .ret))))))⟩
def x437 : XFun :=
 ⟨[.cell 2 (some 2)],(.seq (.region [0, 2] [o0 2 (.alloc [(.int .u8 0),(.int .i64 0)])]) (.seq (.region [2] [o0 3 (.mv (.t 0)),
 o0 4 (.build [(.int .u8 0),(.int .i64 0)] [(0, 1,(.c (.int .u8 2))),(1, 1,(.t 3))]),
 o2 (.store 2 (.t 2) (.t 4))]) .ret))⟩
def x598L1 : XCode :=
 (.seq (.seq (.region [0, 1, 4, 6, 7, 8, 37] [o0 34 (.mv (.t 8)),
 o0 35 (.mv (.t 1)),
 o0 36 (.len (.t 35)),
 o0 37 (.bin .lss (.t 34) (.t 36))]) (.cond (.t 37) .skip (.exit 1))) (.seq (.block 2 (.seq (.region [0, 1, 4, 6, 7, 8, 9] [o0 40 (.mv (.t 0)),
 o0 41 (.mv (.t 1)),
 o0 42 (.mv (.t 8)),
 o0 43 (.idxA 2 (.t 41) (.t 42)),
 o0 44 (.load (some 2) (.t 43)),
 o0 45 (.call .peek 616 [(.t 40),(.t 44)]),
 o0 9 (.alloc [(.int .u8 0),(.int .i64 0),(.string .empty)]),
 o2 (.store 3 (.t 9) (.t 45))]) (.seq (.seq (.region [0, 1, 4, 6, 7, 8, 9, 10, 11] [o0 47 (.mv (.t 7)),
 o0 48 (.load (some 3) (.t 9)),
 o0 49 (.lookup 57 [(.int .i64 0)] false (.t 47) (.t 48) true),
 o0 46 (.mv (.t 49)),
 o0 50 (.extract (.t 46) 0),
 o0 51 (.extract (.t 46) 1),
 o0 10 (.mv (.t 50)),
 o0 11 (.mv (.t 51))]) (.seq (.region [0, 1, 4, 6, 7, 8, 9, 10, 52] [o0 52 (.mv (.t 11))]) (.cond (.t 52) (.seq (.region [0, 1, 4, 6, 7, 8] [o0 53 (.mv (.t 6)),
 o0 54 (.mv (.t 10)),
 o0 55 (.bin .add (.t 54) (.c (.int .i64 1))),
 o0 56 (.mv (.t 1)),
 o0 57 (.mv (.t 8)),
 o0 58 (.bin .add (.t 57) (.c (.int .i64 1))),
 o0 59 (.idxA 2 (.t 56) (.t 58)),
 o0 60 (.load (some 2) (.t 59)),
 o0 61 (.idxA 2 (.t 53) (.t 55)),
 o2 (.store 2 (.t 61) (.t 60))]) (.exit 2)) .skip))) (.seq (.region [0, 1, 4, 6, 7, 8] [o0 62 (.mv (.t 7)),
 o0 63 (.load (some 3) (.t 9)),
 o0 64 (.mv (.t 6)),
 o0 65 (.len (.t 64)),
 o2 (.mapSet 57 (.t 62) (.t 63) (.t 65))]) (.region [0, 1, 4, 6, 7, 8] [o0 66 (.mv (.t 6)),
 o0 67 (.mv (.t 1)),
 o0 68 (.mv (.t 8)),
 o0 69 (.idxA 2 (.t 67) (.t 68)),
 o0 70 (.load (some 2) (.t 69)),
 o0 71 (.mv (.t 1)),
 o0 72 (.mv (.t 8)),
 o0 73 (.bin .add (.t 72) (.c (.int .i64 1))),
 o0 74 (.idxA 2 (.t 71) (.t 73)),
 o0 75 (.load (some 2) (.t 74)),
 o0 76 (.buildSlice 2 [(.int .u8 0),(.int .i64 0)] 2 [(0, 2,(.t 70)),(2, 2,(.t 75))]),
 o0 77 (.append 2 16 (.t 66) (.t 76)),
 o0 6 (.mv (.t 77))]))))) (.region [0, 1, 4, 6, 7, 8] [o0 38 (.mv (.t 8)),
 o0 39 (.bin .add (.t 38) (.c (.int .i64 2))),
 o0 8 (.mv (.t 39))])))
def x598 : XFun :=
 ⟨[.cell 4 (some 2),.tmp 5],(.seq (.region [0, 1, 4] [o0 4 (.alloc [(.int .u8 0),(.int .i64 0)]),
 o0 5 (.mv (.c (.int .i64 0)))]) (.seq (.block 0 (.seq (.region [0, 1, 4, 12] [o0 13 (.mv (.t 0)),
 o0 14 (.call .peek 611 [.t 13]),
 o0 12 (.mv (.t 14))]) (.cond (.t 12) (.seq (.region [4, 5] [o0 15 (.build [(.int .u8 0),(.int .i64 0)] []),
 o2 (.store 2 (.t 4) (.t 15)),
 o0 5 (.mv (.c (.int .i64 2)))]) .ret) (.seq (.region [0, 1, 4, 16] [o0 17 (.mv (.t 1)),
 o0 18 (.len (.t 17)),
 o0 19 (.bin .rem (.t 18) (.c (.int .i64 2))),
 o0 20 (.bin .eql (.t 19) (.c (.int .i64 1))),
 o0 21 (.mv (.t 20)),
 o1 22 21 false (.mv (.t 0)),
 o1 23 21 false (.mv (.t 1)),
 o1 24 21 false (.call .peek 606 [(.t 22),(.t 23),(.f 612)]),
 o1 25 21 false (.un .not (.t 24)),
 o0 26 (.pick (.t 21) (.c (.bool true)) (.t 25)),
 o0 16 (.mv (.t 26))]) (.cond (.t 16) (.seq (.region [4, 5] [o0 27 (.build [(.int .u8 0),(.int .i64 0)] []),
 o2 (.store 2 (.t 4) (.t 27)),
 o0 5 (.mv (.c (.int .i64 1)))]) .ret) (.seq (.region [0, 1, 4, 28] [o0 29 (.mv (.t 1)),
 o0 30 (.len (.t 29)),
 o0 31 (.bin .gtr (.t 30) (.c (.int .i64 131072))),
 o0 28 (.mv (.t 31))]) (.cond (.t 28) (.seq (.region [4, 5] [o0 32 (.build [(.int .u8 0),(.int .i64 0)] []),
 o2 (.store 2 (.t 4) (.t 32)),
 o0 5 (.mv (.c (.int .i64 3)))]) .ret) .skip))))))) (.seq (.region [0, 1, 4, 6] [o0 6 (.mv (.c (.slice none 0 0)))]) (.seq (.region [0, 1, 4, 6, 7] [o0 33 (.makeMap none),
 o0 7 (.mv (.t 33))]) (.seq (.seq (.region [0, 1, 4, 6, 7, 8] [o0 8 (.mv (.c (.int .i64 0)))]) (.block 1 (.loop [0, 1, 4, 6, 7, 8] x598L1))) (.seq (.region [4, 5] [o0 78 (.mv (.t 0)),
 o0 79 (.mv (.t 1)),
 o0 80 (.len (.t 79)),
 o0 81 (.mv (.t 6)),
 o0 82 (.call .share 617 [(.t 78),(.c (.int .u8 5)),(.t 80),(.t 81)]),
 o0 83 (.extract (.t 82) 0),
 o0 84 (.extract (.t 82) 1),
 o2 (.store 2 (.t 4) (.t 83)),
 o0 5 (.mv (.t 84))]) .ret))))))⟩
def x602 : XFun :=
 ⟨[.tmp 8],(.seq (.region [0, 5, 6, 7] [o0 5 (.box 2 (.t 1)),
 o0 6 (.box 2 (.t 2)),
 o0 7 (.box 2 (.t 3)),
 o0 8 (.mv (.c (.int .i64 0)))]) (.seq (.region [0, 6, 7, 9, 10] [o0 16 (.mv (.t 0)),
 o0 17 (.load (some 2) (.t 5)),
 o0 18 (.buildSlice 1 [(.int .u8 0)] 2 [(0, 1,(.c (.int .u8 4))),(1, 1,(.c (.int .u8 5)))]),
 o0 19 (.call .share 610 [(.t 16),(.t 17),(.t 18)]),
 o0 15 (.mv (.t 19)),
 o0 20 (.extract (.t 15) 0),
 o0 21 (.extract (.t 15) 1),
 o0 9 (.alloc [(.pointer none),(.int .i64 0),(.int .u8 0)]),
 o2 (.store 3 (.t 9) (.t 20)),
 o0 10 (.mv (.t 21))]) (.seq (.seq (.region [0, 6, 7, 9, 10, 23] [o0 22 (.mv (.t 10)),
 o0 23 (.bin .neq (.t 22) (.c (.int .i64 0)))]) (.cond (.t 23) (.seq (.region [8] [o0 24 (.mv (.t 10)),
 o0 8 (.mv (.t 24))]) .ret) .skip)) (.seq (.region [0, 6, 7, 9, 11] [o0 25 (.load (some 3) (.t 9)),
 o0 26 (.call .peek 286 [(.t 25),(.c (.int .i64 0))]),
 o0 27 (.conv .i64 (.t 26)),
 o0 11 (.mv (.t 27)),
 o0 12 (.mv (.c (.int .i64 0)))]) (.seq (.seq (.region [0, 6, 7, 9, 11, 30] [o0 28 (.fieldA 2 (.t 9)),
 o0 29 (.load none (.t 28)),
 o0 30 (.bin .eql (.t 29) (.c (.int .u8 4)))]) (.cond (.t 30) (.seq (.block 0 (.seq (.region [0, 6, 7, 9, 11, 31] [o0 32 (.fieldA 0 (.t 6)),
 o0 33 (.load none (.t 32)),
 o0 34 (.bin .neq (.t 33) (.c (.int .u8 2))),
 o0 31 (.mv (.t 34))]) (.cond (.t 31) (.seq (.region [8] [o0 8 (.mv (.c (.int .i64 9)))]) .ret) (.seq (.region [6, 7, 9, 11, 35] [o0 36 (.fieldA 1 (.t 6)),
 o0 37 (.load none (.t 36)),
 o0 38 (.bin .lss (.t 37) (.c (.int .i64 0))),
 o0 39 (.mv (.t 38)),
 o1 40 39 false (.fieldA 1 (.t 6)),
 o1 41 39 false (.load none (.t 40)),
 o1 42 39 false (.mv (.t 11)),
 o1 43 39 false (.bin .gtr (.t 41) (.t 42)),
 o0 44 (.pick (.t 39) (.c (.bool true)) (.t 43)),
 o0 45 (.mv (.t 44)),
 o1 46 45 false (.mv (.t 0)),
 o1 47 45 false (.load (some 2) (.t 7)),
 o1 48 45 false (.call .peek 612 [(.t 46),(.t 47)]),
 o1 49 45 false (.un .not (.t 48)),
 o0 50 (.pick (.t 45) (.c (.bool true)) (.t 49)),
 o0 35 (.mv (.t 50))]) (.cond (.t 35) (.seq (.region [8] [o0 8 (.mv (.c (.int .i64 1)))]) .ret) (.seq (.region [6, 7, 9, 11, 51] [o0 52 (.fieldA 1 (.t 6)),
 o0 53 (.load none (.t 52)),
 o0 54 (.mv (.t 11)),
 o0 55 (.bin .eql (.t 53) (.t 54)),
 o0 56 (.mv (.t 55)),
 o1 57 56 true (.mv (.t 11)),
 o1 58 56 true (.bin .eql (.t 57) (.c (.int .i64 65536))),
 o0 59 (.pick (.t 56) (.t 58) (.c (.bool false))),
 o0 51 (.mv (.t 59))]) (.cond (.t 51) (.seq (.region [8] [o0 8 (.mv (.c (.int .i64 3)))]) .ret) (.seq (.region [6, 7, 9, 60] [o0 61 (.fieldA 1 (.t 6)),
 o0 62 (.load none (.t 61)),
 o0 63 (.mv (.t 11)),
 o0 64 (.bin .eql (.t 62) (.t 63)),
 o0 60 (.mv (.t 64))]) (.cond (.t 60) (.seq (.region [8] [o0 65 (.load (some 3) (.t 9)),
 o0 66 (.load (some 2) (.t 7)),
 o0 67 (.buildSlice 2 [(.int .u8 0),(.int .i64 0)] 1 [(0, 2,(.t 66))]),
 o0 68 (.call .share 279 [(.t 65),(.c (.int .i64 4)),(.t 67)]),
 o0 8 (.mv (.t 68))]) .ret) .skip))))))))) (.region [7, 9, 12] [o0 69 (.fieldA 1 (.t 6)),
 o0 70 (.load none (.t 69)),
 o0 12 (.mv (.t 70))])) (.seq (.seq (.region [6, 7, 9, 11, 80] [o0 71 (.mv (.t 0)),
 o0 72 (.load (some 2) (.t 6)),
 o0 73 (.call .peek 612 [(.t 71),(.t 72)]),
 o0 74 (.un .not (.t 73)),
 o0 75 (.mv (.t 74)),
 o1 76 75 false (.mv (.t 0)),
 o1 77 75 false (.load (some 2) (.t 7)),
 o1 78 75 false (.call .peek 612 [(.t 76),(.t 77)]),
 o1 79 75 false (.un .not (.t 78)),
 o0 80 (.pick (.t 75) (.c (.bool true)) (.t 79))]) (.cond (.t 80) (.seq (.region [8] [o0 8 (.mv (.c (.int .i64 1)))]) .ret) .skip)) (.seq (.region [6, 7, 9, 11, 12] [o0 81 (.load (some 3) (.t 9)),
 o0 82 (.load (some 2) (.t 6)),
 o0 83 (.call .peek 274 [(.t 81),(.t 82)]),
 o0 12 (.mv (.t 83))]) (.block 1 (.seq (.region [6, 7, 9, 12, 84] [o0 85 (.mv (.t 12)),
 o0 86 (.bin .lss (.t 85) (.c (.int .i64 0))),
 o0 87 (.mv (.t 86)),
 o1 88 87 true (.mv (.t 11)),
 o1 89 87 true (.bin .eql (.t 88) (.c (.int .i64 131072))),
 o0 90 (.pick (.t 87) (.t 89) (.c (.bool false))),
 o0 84 (.mv (.t 90))]) (.cond (.t 84) (.seq (.region [8] [o0 8 (.mv (.c (.int .i64 3)))]) .ret) (.seq (.region [6, 7, 9, 12, 91] [o0 92 (.mv (.t 12)),
 o0 93 (.bin .lss (.t 92) (.c (.int .i64 0))),
 o0 91 (.mv (.t 93))]) (.cond (.t 91) (.seq (.region [8] [o0 94 (.load (some 3) (.t 9)),
 o0 95 (.load (some 2) (.t 6)),
 o0 96 (.load (some 2) (.t 7)),
 o0 97 (.buildSlice 2 [(.int .u8 0),(.int .i64 0)] 2 [(0, 2,(.t 95)),(2, 2,(.t 96))]),
 o0 98 (.call .share 279 [(.t 94),(.c (.int .i64 8)),(.t 97)]),
 o0 8 (.mv (.t 98))]) .ret) .skip))))))))) (.seq (.region [7, 12, 13] [o0 100 (.load (some 3) (.t 9)),
 o0 101 (.call .share 276 [.t 100]),
 o0 99 (.mv (.t 101)),
 o0 102 (.extract (.t 99) 0),
 o0 103 (.extract (.t 99) 1),
 o0 13 (.alloc [(.pointer none),(.int .i64 0),(.int .u8 0)]),
 o2 (.store 3 (.t 13) (.t 102)),
 o0 14 (.mv (.t 103))]) (.seq (.region [] [o0 104 (.load (some 3) (.t 13)),
 o0 105 (.mv (.t 12)),
 o0 106 (.bin .mul (.c (.int .i64 2)) (.t 105)),
 o0 107 (.load (some 2) (.t 7)),
 o0 108 (.call .share 275 [(.t 104),(.t 106),(.t 107)])]) (.seq (.region [8] [o0 8 (.mv (.c (.int .i64 0)))]) .ret))))))))⟩
def x593 : XFun :=
 ⟨[.tmp 4,.tmp 5],(.seq (.region [0, 3] [o0 3 (.box 2 (.t 1)),
 o0 4 (.mv (.c (.slice none 0 0))),
 o0 5 (.mv (.c (.int .i64 0)))]) (.seq (.region [6, 7] [o0 9 (.mv (.t 0)),
 o0 10 (.load (some 2) (.t 3)),
 o0 11 (.buildSlice 1 [(.int .u8 0)] 2 [(0, 1,(.c (.int .u8 4))),(1, 1,(.c (.int .u8 5)))]),
 o0 12 (.call .share 610 [(.t 9),(.t 10),(.t 11)]),
 o0 8 (.mv (.t 12)),
 o0 13 (.extract (.t 8) 0),
 o0 14 (.extract (.t 8) 1),
 o0 6 (.alloc [(.pointer none),(.int .i64 0),(.int .u8 0)]),
 o2 (.store 3 (.t 6) (.t 13)),
 o0 7 (.mv (.t 14))]) (.seq (.seq (.region [6, 7, 16] [o0 15 (.mv (.t 7)),
 o0 16 (.bin .neq (.t 15) (.c (.int .i64 0)))]) (.cond (.t 16) (.seq (.region [4, 5] [o0 17 (.mv (.t 7)),
 o0 4 (.mv (.c (.slice none 0 0))),
 o0 5 (.mv (.t 17))]) .ret) .skip)) (.seq (.region [4, 5] [o0 18 (.load (some 3) (.t 6)),
 o0 19 (.call .look 278 [.t 18]),
 o0 4 (.mv (.t 19)),
 o0 5 (.mv (.c (.int .i64 0)))]) .ret))))⟩
def x611 : XFun :=
 ⟨[.tmp 2],(.seq (.region [0] [o0 2 (.mv (.c (.bool false)))]) (.seq (.region [2] [o0 3 (.mv (.t 0)),
 o0 4 (.eqNil false 1 (.t 3)),
 o0 5 (.mv (.t 4)),
 o1 6 5 false (.mv (.t 0)),
 o1 7 5 false (.call .peek 177 [.t 6]),
 o1 8 5 false (.bin .eql (.t 7) (.c (.int .i64 0))),
 o0 9 (.pick (.t 5) (.c (.bool true)) (.t 8)),
 o0 2 (.mv (.t 9))]) .ret))⟩
def x615 : XFun :=
 ⟨[.cell 6 (some 3),.tmp 7],(.seq (.region [0, 1, 2, 6] [o0 6 (.alloc [(.pointer none),(.int .i64 0),(.int .u8 0)]),
 o0 7 (.mv (.c (.int .i64 0)))]) (.seq (.region [0, 1, 6, 8, 9] [o0 11 (.mv (.t 0)),
 o0 12 (.mv (.t 1)),
 o0 13 (.mv (.t 2)),
 o0 14 (.call .share 169 [(.t 11),(.t 12),(.t 13)]),
 o0 10 (.mv (.t 14)),
 o0 15 (.extract (.t 10) 0),
 o0 16 (.extract (.t 10) 1),
 o0 8 (.mv (.t 15)),
 o0 9 (.mv (.t 16))]) (.seq (.region [6, 7] [o0 17 (.mv (.t 0)),
 o0 18 (.mv (.t 8)),
 o0 19 (.mv (.t 1)),
 o0 20 (.build [(.pointer none),(.int .i64 0),(.int .u8 0)] [(0, 1,(.t 17)),(1, 1,(.t 18)),(2, 1,(.t 19))]),
 o0 21 (.mv (.t 9)),
 o2 (.store 3 (.t 6) (.t 20)),
 o0 7 (.mv (.t 21))]) .ret)))⟩
def x618 : XFun :=
 ⟨[.cell 4 (some 2),.tmp 5],(.seq (.region [1, 2, 4] [o0 2 (.box 3 (.t 0)),
 o0 4 (.alloc [(.int .u8 0),(.int .i64 0)]),
 o0 5 (.mv (.c (.int .i64 0)))]) (.seq (.seq (.region [1, 2, 4, 7] [o0 6 (.mv (.t 1)),
 o0 7 (.bin .neq (.t 6) (.c (.int .i64 0)))]) (.cond (.t 7) (.seq (.region [4, 5] [o0 8 (.build [(.int .u8 0),(.int .i64 0)] []),
 o0 9 (.mv (.t 1)),
 o2 (.store 2 (.t 4) (.t 8)),
 o0 5 (.mv (.t 9))]) .ret) .skip)) (.seq (.region [4, 5] [o0 10 (.fieldA 2 (.t 2)),
 o0 11 (.load none (.t 10)),
 o0 12 (.fieldA 1 (.t 2)),
 o0 13 (.load none (.t 12)),
 o0 14 (.build [(.int .u8 0),(.int .i64 0)] [(0, 1,(.t 11)),(1, 1,(.t 13))]),
 o2 (.store 2 (.t 4) (.t 14)),
 o0 5 (.mv (.c (.int .i64 0)))]) .ret)))⟩
def x597 : XFun :=
 ⟨[.cell 4 (some 2),.tmp 5],(.seq (.region [0, 1, 4] [o0 4 (.alloc [(.int .u8 0),(.int .i64 0)]),
 o0 5 (.mv (.c (.int .i64 0)))]) (.seq (.block 0 (.seq (.region [0, 1, 4, 6] [o0 7 (.mv (.t 0)),
 o0 8 (.call .peek 611 [.t 7]),
 o0 6 (.mv (.t 8))]) (.cond (.t 6) (.seq (.region [4, 5] [o0 9 (.build [(.int .u8 0),(.int .i64 0)] []),
 o2 (.store 2 (.t 4) (.t 9)),
 o0 5 (.mv (.c (.int .i64 2)))]) .ret) (.seq (.region [0, 1, 4, 10] [o0 11 (.mv (.t 0)),
 o0 12 (.mv (.t 1)),
 o0 13 (.call .peek 606 [(.t 11),(.t 12),(.f 612)]),
 o0 14 (.un .not (.t 13)),
 o0 10 (.mv (.t 14))]) (.cond (.t 10) (.seq (.region [4, 5] [o0 15 (.build [(.int .u8 0),(.int .i64 0)] []),
 o2 (.store 2 (.t 4) (.t 15)),
 o0 5 (.mv (.c (.int .i64 1)))]) .ret) (.seq (.region [0, 1, 4, 16] [o0 17 (.mv (.t 1)),
 o0 18 (.len (.t 17)),
 o0 19 (.bin .gtr (.t 18) (.c (.int .i64 65536))),
 o0 16 (.mv (.t 19))]) (.cond (.t 16) (.seq (.region [4, 5] [o0 20 (.build [(.int .u8 0),(.int .i64 0)] []),
 o2 (.store 2 (.t 4) (.t 20)),
 o0 5 (.mv (.c (.int .i64 3)))]) .ret) .skip))))))) (.seq (.region [4, 5] [o0 21 (.mv (.t 0)),
 o0 22 (.mv (.t 1)),
 o0 23 (.len (.t 22)),
 o0 24 (.mv (.t 1)),
 o0 25 (.call .share 617 [(.t 21),(.c (.int .u8 4)),(.t 23),(.t 24)]),
 o0 26 (.extract (.t 25) 0),
 o0 27 (.extract (.t 25) 1),
 o2 (.store 2 (.t 4) (.t 26)),
 o0 5 (.mv (.t 27))]) .ret)))⟩
def x610 : XFun :=
 ⟨[.cell 6 (some 3),.tmp 7],(.seq (.region [0, 2, 4, 6] [o0 4 (.box 2 (.t 1)),
 o0 6 (.alloc [(.pointer none),(.int .i64 0),(.int .u8 0)]),
 o0 7 (.mv (.c (.int .i64 0)))]) (.seq (.block 0 (.seq (.region [0, 2, 4, 6, 10] [o0 11 (.mv (.t 0)),
 o0 12 (.call .peek 611 [.t 11]),
 o0 10 (.mv (.t 12))]) (.cond (.t 10) (.seq (.region [6, 7] [o0 13 (.build [(.pointer none),(.int .i64 0),(.int .u8 0)] []),
 o2 (.store 3 (.t 6) (.t 13)),
 o0 7 (.mv (.c (.int .i64 2)))]) .ret) (.seq (.region [0, 4, 6, 14] [o0 15 (.mv (.t 2)),
 o0 16 (.fieldA 0 (.t 4)),
 o0 17 (.load none (.t 16)),
 o0 18 (.call .peek 752 [(.t 15),(.t 17)]),
 o0 19 (.un .not (.t 18)),
 o0 14 (.mv (.t 19))]) (.cond (.t 14) (.seq (.region [6, 7] [o0 20 (.build [(.pointer none),(.int .i64 0),(.int .u8 0)] []),
 o2 (.store 3 (.t 6) (.t 20)),
 o0 7 (.mv (.c (.int .i64 9)))]) .ret) .skip))))) (.seq (.region [6, 8, 9] [o0 22 (.mv (.t 0)),
 o0 23 (.load (some 2) (.t 4)),
 o0 24 (.call .share 613 [(.t 22),(.t 23)]),
 o0 21 (.mv (.t 24)),
 o0 25 (.extract (.t 21) 0),
 o0 26 (.extract (.t 21) 1),
 o0 8 (.alloc [(.pointer none),(.int .i64 0),(.int .u8 0)]),
 o2 (.store 3 (.t 8) (.t 25)),
 o0 9 (.mv (.t 26))]) (.seq (.seq (.region [6, 8, 33] [o0 27 (.mv (.t 9)),
 o0 28 (.un .not (.t 27)),
 o0 29 (.mv (.t 28)),
 o1 30 29 false (.load (some 3) (.t 8)),
 o1 31 29 false (.call .peek 277 [.t 30]),
 o1 32 29 false (.un .not (.t 31)),
 o0 33 (.pick (.t 29) (.c (.bool true)) (.t 32))]) (.cond (.t 33) (.seq (.region [6, 7] [o0 34 (.build [(.pointer none),(.int .i64 0),(.int .u8 0)] []),
 o2 (.store 3 (.t 6) (.t 34)),
 o0 7 (.mv (.c (.int .i64 1)))]) .ret) .skip)) (.seq (.region [6, 7] [o0 35 (.load (some 3) (.t 8)),
 o2 (.store 3 (.t 6) (.t 35)),
 o0 7 (.mv (.c (.int .i64 0)))]) .ret)))))⟩
def x282L1 : XCode :=
 (.seq (.seq (.region [1, 3, 4, 5, 6, 7, 24] [o0 23 (.mv (.t 7)),
 o0 24 (.bin .lss (.t 23) (.c (.int .i64 8)))]) (.cond (.t 24) .skip (.exit 2))) (.seq (.block 3 (.region [1, 3, 4, 5, 6, 7] [o0 27 (.mv (.t 4)),
 o0 28 (.mv (.t 6)),
 o0 29 (.mv (.t 7)),
 o0 30 (.bin .mul (.c (.int .i64 8)) (.t 29)),
 o0 31 (.bin .shr (.t 28) (.t 30)),
 o0 32 (.conv .u8 (.t 31)),
 o0 33 (.buildSlice 1 [(.int .u8 0)] 1 [(0, 1,(.t 32))]),
 o0 34 (.append 1 1 (.t 27) (.t 33)),
 o0 4 (.mv (.t 34))])) (.region [1, 3, 4, 5, 6, 7] [o0 25 (.mv (.t 7)),
 o0 26 (.bin .add (.t 25) (.c (.int .i64 1))),
 o0 7 (.mv (.t 26))])))
def x282L2 : XCode :=
 (.seq (.seq (.region [1, 3, 4, 5, 17] [o0 14 (.mv (.t 4)),
 o0 15 (.len (.t 14)),
 o0 16 (.mv (.t 3)),
 o0 17 (.bin .lss (.t 15) (.t 16))]) (.cond (.t 17) .skip (.exit 0))) (.seq (.block 1 (.seq (.region [1, 3, 4, 5, 6, 7] [o0 20 (.load (some 3) (.t 1)),
 o0 21 (.mv (.t 5)),
 o0 22 (.call .peek 286 [(.t 20),(.t 21)]),
 o0 6 (.mv (.t 22)),
 o0 7 (.mv (.c (.int .i64 0)))]) (.block 2 (.loop [1, 3, 4, 5, 6, 7] x282L1)))) (.region [1, 3, 4, 5] [o0 18 (.mv (.t 5)),
 o0 19 (.bin .add (.t 18) (.c (.int .i64 1))),
 o0 5 (.mv (.t 19))])))
def x282 : XFun :=
 ⟨[.tmp 2],(.seq (.region [1] [o0 1 (.box 3 (.t 0)),
 o0 2 (.mv (.c (.string .empty)))]) (.seq (.region [1, 3] [o0 8 (.load (some 3) (.t 1)),
 o0 9 (.call .peek 286 [(.t 8),(.c (.int .i64 0))]),
 o0 10 (.conv .i64 (.t 9)),
 o0 3 (.mv (.t 10))]) (.seq (.region [1, 3, 4] [o0 11 (.mv (.t 3)),
 o0 12 (.bin .add (.t 11) (.c (.int .i64 7))),
 o0 13 (.makeSlice 1 1 [(.int .u8 0)] (.c (.int .i64 0)) (.t 12)),
 o0 4 (.mv (.t 13))]) (.seq (.seq (.region [1, 3, 4, 5] [o0 5 (.mv (.c (.int .i64 1)))]) (.block 0 (.loop [1, 3, 4, 5] x282L2))) (.seq (.region [2] [o0 35 (.mv (.t 4)),
 o0 36 (.mv (.t 3)),
 o0 37 (.slice 1 (.t 35) none (some (.t 36))),
 o0 38 (.strOf (.t 37)),
 o0 2 (.mv (.t 38))]) .ret)))))⟩
def x286 : XFun :=
 ⟨[.tmp 4],(.seq (.region [1, 2] [o0 2 (.box 3 (.t 0)),
 o0 4 (.mv (.c (.int .u64 0)))]) (.seq (.region [5] [o0 8 (.fieldA 0 (.t 2)),
 o0 9 (.load none (.t 8)),
 o0 10 (.fieldA 1 (.t 2)),
 o0 11 (.load none (.t 10)),
 o0 12 (.mv (.t 1)),
 o0 13 (.call .peek 174 [(.t 9),(.t 11),(.t 12)]),
 o0 7 (.mv (.t 13)),
 o0 14 (.extract (.t 7) 0),
 o0 15 (.extract (.t 7) 1),
 o0 5 (.mv (.t 14)),
 o0 6 (.mv (.t 15))]) (.seq (.region [4] [o0 16 (.mv (.t 5)),
 o0 4 (.mv (.t 16))]) .ret)))⟩
def x616 : XFun :=
 ⟨[.cell 4 (some 3)],(.seq (.region [0, 3, 4] [o0 3 (.box 2 (.t 1)),
 o0 4 (.alloc [(.int .u8 0),(.int .i64 0),(.string .empty)])]) (.seq (.seq (.region [0, 3, 4, 9] [o0 7 (.fieldA 0 (.t 3)),
 o0 8 (.load none (.t 7)),
 o0 9 (.bin .eql (.t 8) (.c (.int .u8 0)))]) (.cond (.t 9) (.seq (.region [4] [o0 10 (.build [(.int .u8 0),(.int .i64 0),(.string .empty)] []),
 o2 (.store 3 (.t 4) (.t 10))]) .ret) .skip)) (.seq (.seq (.region [3, 4, 5, 6] [o0 12 (.mv (.t 0)),
 o0 13 (.load (some 2) (.t 3)),
 o0 14 (.call .peek 605 [(.t 12),(.t 13)]),
 o0 11 (.mv (.t 14)),
 o0 15 (.extract (.t 11) 0),
 o0 16 (.extract (.t 11) 1),
 o0 5 (.mv (.t 15)),
 o0 6 (.mv (.t 16))]) (.seq (.region [3, 4, 5, 18] [o0 17 (.mv (.t 6)),
 o0 18 (.bin .eql (.t 17) (.c (.int .i64 0)))]) (.cond (.t 18) (.seq (.region [4] [o0 19 (.build [(.int .u8 0),(.int .i64 0)] [(0, 1,(.c (.int .u8 3)))]),
 o0 20 (.mv (.t 5)),
 o0 21 (.bin .add (.c (.string ⟨#[61]⟩)) (.t 20)),
 o0 22 (.build [(.int .u8 0),(.int .i64 0),(.string .empty)] [(0, 2,(.t 19)),(2, 1,(.t 21))]),
 o2 (.store 3 (.t 4) (.t 22))]) .ret) .skip))) (.seq (.region [4] [o0 23 (.load (some 2) (.t 3)),
 o0 24 (.build [(.int .u8 0),(.int .i64 0),(.string .empty)] [(0, 2,(.t 23)),(2, 1,(.c (.string .empty)))]),
 o2 (.store 3 (.t 4) (.t 24))]) .ret))))⟩
def x276 : XFun :=
 ⟨[.cell 2 (some 3),.tmp 3],(.seq (.region [1, 2] [o0 1 (.box 3 (.t 0)),
 o0 2 (.alloc [(.pointer none),(.int .i64 0),(.int .u8 0)]),
 o0 3 (.mv (.c (.bool false)))]) (.seq (.region [2, 3] [o0 4 (.fieldA 0 (.t 1)),
 o0 5 (.load none (.t 4)),
 o0 6 (.load (some 3) (.t 1)),
 o0 7 (.call .peek 286 [(.t 6),(.c (.int .i64 1))]),
 o0 8 (.bin .sub (.t 7) (.c (.int .u64 1))),
 o0 9 (.conv .i64 (.t 8)),
 o0 10 (.call .touch 614 [(.t 5),(.t 9)]),
 o0 11 (.extract (.t 10) 0),
 o0 12 (.extract (.t 10) 1),
 o2 (.store 3 (.t 2) (.t 11)),
 o0 3 (.mv (.t 12))]) .ret))⟩
def x274L1 : XCode :=
 (.seq (.seq (.region [2, 5, 6, 8, 22] [o0 18 (.mv (.t 8)),
 o0 19 (.load (some 3) (.t 2)),
 o0 20 (.call .peek 286 [(.t 19),(.c (.int .i64 0))]),
 o0 21 (.conv .i64 (.t 20)),
 o0 22 (.bin .lss (.t 18) (.t 21))]) (.cond (.t 22) .skip (.exit 0))) (.seq (.block 1 (.seq (.region [2, 5, 6, 8, 33] [o0 25 (.fieldA 0 (.t 2)),
 o0 26 (.load none (.t 25)),
 o0 27 (.load (some 3) (.t 6)),
 o0 28 (.mv (.t 8)),
 o0 29 (.bin .mul (.c (.int .i64 2)) (.t 28)),
 o0 30 (.call .peek 283 [(.t 27),(.t 29)]),
 o0 31 (.call .peek 616 [(.t 26),(.t 30)]),
 o0 32 (.load (some 3) (.t 5)),
 o0 33 (.eqCells false [0, 0, 2] (.t 31) (.t 32))]) (.cond (.t 33) (.seq (.region [4] [o0 34 (.mv (.t 8)),
 o0 35 (.bin .add (.t 34) (.c (.int .i64 1))),
 o0 4 (.mv (.t 35))]) .ret) .skip))) (.region [2, 5, 6, 8] [o0 23 (.mv (.t 8)),
 o0 24 (.bin .add (.t 23) (.c (.int .i64 2))),
 o0 8 (.mv (.t 24))])))
def x274 : XFun :=
 ⟨[.tmp 4],(.seq (.region [2, 3] [o0 2 (.box 3 (.t 0)),
 o0 3 (.box 2 (.t 1)),
 o0 4 (.mv (.c (.int .i64 0)))]) (.seq (.region [2, 5] [o0 9 (.fieldA 0 (.t 2)),
 o0 10 (.load none (.t 9)),
 o0 11 (.load (some 2) (.t 3)),
 o0 12 (.call .peek 616 [(.t 10),(.t 11)]),
 o0 5 (.alloc [(.int .u8 0),(.int .i64 0),(.string .empty)]),
 o2 (.store 3 (.t 5) (.t 12))]) (.seq (.region [2, 5, 6] [o0 14 (.load (some 3) (.t 2)),
 o0 15 (.call .share 276 [.t 14]),
 o0 13 (.mv (.t 15)),
 o0 16 (.extract (.t 13) 0),
 o0 17 (.extract (.t 13) 1),
 o0 6 (.alloc [(.pointer none),(.int .i64 0),(.int .u8 0)]),
 o2 (.store 3 (.t 6) (.t 16)),
 o0 7 (.mv (.t 17))]) (.seq (.seq (.region [2, 5, 6, 8] [o0 8 (.mv (.c (.int .i64 0)))]) (.block 0 (.loop [2, 5, 6, 8] x274L1))) (.seq (.region [4] [o0 4 (.mv (.c (.int .i64 (-1))))]) .ret)))))⟩
def x283 : XFun :=
 ⟨[.cell 4 (some 2)],(.seq (.region [1, 2, 4] [o0 2 (.box 3 (.t 0)),
 o0 4 (.alloc [(.int .u8 0),(.int .i64 0)])]) (.seq (.region [1, 2, 4, 5] [o0 6 (.load (some 3) (.t 2)),
 o0 7 (.mv (.t 1)),
 o0 8 (.call .peek 286 [(.t 6),(.t 7)]),
 o0 5 (.mv (.t 8))]) (.seq (.seq (.region [1, 2, 4, 5, 10] [o0 9 (.mv (.t 5)),
 o0 10 (.bin .gtr (.t 9) (.c (.int .u64 255)))]) (.cond (.t 10) (.seq (.region [4] [o0 11 (.build [(.int .u8 0),(.int .i64 0)] []),
 o2 (.store 2 (.t 4) (.t 11))]) .ret) .skip)) (.seq (.region [4] [o0 12 (.mv (.t 5)),
 o0 13 (.conv .u8 (.t 12)),
 o0 14 (.load (some 3) (.t 2)),
 o0 15 (.mv (.t 1)),
 o0 16 (.bin .add (.t 15) (.c (.int .i64 1))),
 o0 17 (.call .peek 286 [(.t 14),(.t 16)]),
 o0 18 (.conv .i64 (.t 17)),
 o0 19 (.build [(.int .u8 0),(.int .i64 0)] [(0, 1,(.t 13)),(1, 1,(.t 18))]),
 o2 (.store 2 (.t 4) (.t 19))]) .ret))))⟩
def x606 : XFun :=
 ⟨[.tmp 6],(.seq (.region [1, 3, 5] [o0 3 (.box 1 (.t 0)),
 o0 5 (.box 1 (.t 2)),
 o0 6 (.mv (.c (.bool false)))]) (.seq (.region [6] [o0 7 (.mv (.t 1)),
 o0 8 (.mkClo 607 [(.t 5),(.t 3)]),
 o0 9 (.call .share 749 [(.t 7),(.t 8)]),
 o0 10 (.un .not (.t 9)),
 o0 6 (.mv (.t 10))]) .ret))⟩
def x612 : XFun :=
 ⟨[.tmp 4],(.seq (.region [0, 3] [o0 3 (.box 2 (.t 1)),
 o0 4 (.mv (.c (.bool false)))]) (.seq (.seq (.region [0, 3, 8] [o0 7 (.fieldA 0 (.t 3)),
 o0 8 (.load none (.t 7))]) (.block 0 (.seq (.region [0, 3, 8, 9] [o0 10 (.bin .eql (.t 8) (.c (.int .u8 0))),
 o0 9 (.mv (.t 10))]) (.cond (.t 9) (.seq (.region [4] [o0 11 (.fieldA 1 (.t 3)),
 o0 12 (.load none (.t 11)),
 o0 13 (.bin .eql (.t 12) (.c (.int .i64 0))),
 o0 4 (.mv (.t 13))]) .ret) (.seq (.region [0, 3, 8, 14] [o0 15 (.bin .eql (.t 8) (.c (.int .u8 1))),
 o0 14 (.mv (.t 15))]) (.cond (.t 14) (.seq (.region [4] [o0 16 (.fieldA 1 (.t 3)),
 o0 17 (.load none (.t 16)),
 o0 18 (.bin .eql (.t 17) (.c (.int .i64 0))),
 o0 19 (.mv (.t 18)),
 o1 20 19 false (.fieldA 1 (.t 3)),
 o1 21 19 false (.load none (.t 20)),
 o1 22 19 false (.bin .eql (.t 21) (.c (.int .i64 1))),
 o0 23 (.pick (.t 19) (.c (.bool true)) (.t 22)),
 o0 4 (.mv (.t 23))]) .ret) (.seq (.region [0, 3, 8, 24] [o0 25 (.bin .eql (.t 8) (.c (.int .u8 2))),
 o0 24 (.mv (.t 25))]) (.cond (.t 24) (.seq (.region [4] [o0 4 (.mv (.c (.bool true)))]) .ret) (.seq (.seq (.region [0, 3, 8, 26] [o0 27 (.bin .eql (.t 8) (.c (.int .u8 3))),
 o0 26 (.mv (.t 27))]) (.cond (.t 26) .skip (.seq (.region [0, 3, 8, 26] [o0 28 (.bin .eql (.t 8) (.c (.int .u8 4))),
 o0 26 (.mv (.t 28))]) (.cond (.t 26) .skip (.seq (.region [0, 3, 8, 26] [o0 29 (.bin .eql (.t 8) (.c (.int .u8 5))),
 o0 26 (.mv (.t 29))]) (.cond (.t 26) .skip (.region [0, 3, 26] [o0 30 (.bin .eql (.t 8) (.c (.int .u8 6))),
 o0 26 (.mv (.t 30))]))))))) (.cond (.t 26) (.seq (.region [6] [o0 32 (.mv (.t 0)),
 o0 33 (.load (some 2) (.t 3)),
 o0 34 (.call .share 613 [(.t 32),(.t 33)]),
 o0 31 (.mv (.t 34)),
 o0 35 (.extract (.t 31) 0),
 o0 36 (.extract (.t 31) 1),
 o0 5 (.alloc [(.pointer none),(.int .i64 0),(.int .u8 0)]),
 o2 (.store 3 (.t 5) (.t 35)),
 o0 6 (.mv (.t 36))]) (.seq (.region [4] [o0 37 (.mv (.t 6)),
 o0 4 (.mv (.t 37))]) .ret)) .skip)))))))))) (.seq (.region [4] [o0 4 (.mv (.c (.bool false)))]) .ret)))⟩
def x617 : XFun :=
 ⟨[.cell 8 (some 2),.tmp 9],(.seq (.region [0, 1, 2, 3, 8] [o0 8 (.alloc [(.int .u8 0),(.int .i64 0)]),
 o0 9 (.mv (.c (.int .i64 0)))]) (.seq (.seq (.region [0, 1, 2, 3, 8, 10] [o0 14 (.mv (.t 2)),
 o0 15 (.bin .mul (.c (.int .i64 2)) (.t 14)),
 o0 16 (.bin .add (.c (.int .i64 4)) (.t 15)),
 o0 10 (.mv (.t 16))]) (.seq (.region [0, 1, 2, 3, 8, 27] [o0 17 (.mv (.t 2)),
 o0 18 (.bin .gtr (.t 17) (.c (.int .i64 0))),
 o0 19 (.mv (.t 18)),
 o1 20 19 true (.mv (.t 10)),
 o1 21 19 true (.mv (.t 0)),
 o1 22 19 true (.call .peek 177 [.t 21]),
 o1 23 19 true (.mv (.t 0)),
 o1 24 19 true (.call .peek 176 [.t 23]),
 o1 25 19 true (.bin .sub (.t 22) (.t 24)),
 o1 26 19 true (.bin .gtr (.t 20) (.t 25)),
 o0 27 (.pick (.t 19) (.t 26) (.c (.bool false)))]) (.cond (.t 27) (.seq (.region [8, 9] [o0 28 (.build [(.int .u8 0),(.int .i64 0)] []),
 o2 (.store 2 (.t 8) (.t 28)),
 o0 9 (.mv (.c (.int .i64 7)))]) .ret) .skip))) (.seq (.region [0, 2, 3, 8, 11, 12] [o0 30 (.mv (.t 0)),
 o0 31 (.mv (.t 1)),
 o0 32 (.call .share 615 [(.t 30),(.t 31),(.c (.int .i64 2))]),
 o0 29 (.mv (.t 32)),
 o0 33 (.extract (.t 29) 0),
 o0 34 (.extract (.t 29) 1),
 o0 11 (.alloc [(.pointer none),(.int .i64 0),(.int .u8 0)]),
 o2 (.store 3 (.t 11) (.t 33)),
 o0 12 (.mv (.t 34))]) (.seq (.seq (.region [0, 2, 3, 8, 11, 12, 40] [o0 35 (.mv (.t 12)),
 o0 36 (.bin .neq (.t 35) (.c (.int .i64 0))),
 o0 37 (.mv (.t 36)),
 o1 38 37 false (.mv (.t 2)),
 o1 39 37 false (.bin .eql (.t 38) (.c (.int .i64 0))),
 o0 40 (.pick (.t 37) (.c (.bool true)) (.t 39))]) (.cond (.t 40) (.seq (.region [8, 9] [o0 41 (.load (some 3) (.t 11)),
 o0 42 (.mv (.t 12)),
 o0 43 (.call .peek 618 [(.t 41),(.t 42)]),
 o0 44 (.extract (.t 43) 0),
 o0 45 (.extract (.t 43) 1),
 o2 (.store 2 (.t 8) (.t 44)),
 o0 9 (.mv (.t 45))]) .ret) .skip)) (.seq (.region [3, 8, 11, 12, 13] [o0 47 (.mv (.t 0)),
 o0 48 (.mv (.t 2)),
 o0 49 (.mv (.t 3)),
 o0 50 (.call .share 609 [(.t 47),(.t 48),(.t 49)]),
 o0 46 (.mv (.t 50)),
 o0 51 (.extract (.t 46) 0),
 o0 52 (.extract (.t 46) 1),
 o0 13 (.alloc [(.pointer none),(.int .i64 0),(.int .u8 0)]),
 o2 (.store 3 (.t 13) (.t 51)),
 o0 12 (.mv (.t 52))]) (.seq (.region [8, 11, 12, 13] [o0 53 (.fieldA 0 (.t 11)),
 o0 54 (.load none (.t 53)),
 o0 55 (.fieldA 1 (.t 11)),
 o0 56 (.load none (.t 55)),
 o0 57 (.mv (.t 3)),
 o0 58 (.len (.t 57)),
 o0 59 (.conv .u64 (.t 58)),
 o0 60 (.call .share 178 [(.t 54),(.t 56),(.c (.int .i64 0)),(.t 59)])]) (.seq (.region [8, 11, 12] [o0 61 (.fieldA 0 (.t 11)),
 o0 62 (.load none (.t 61)),
 o0 63 (.fieldA 1 (.t 11)),
 o0 64 (.load none (.t 63)),
 o0 65 (.fieldA 1 (.t 13)),
 o0 66 (.load none (.t 65)),
 o0 67 (.conv .u64 (.t 66)),
 o0 68 (.bin .add (.t 67) (.c (.int .u64 1))),
 o0 69 (.call .share 178 [(.t 62),(.t 64),(.c (.int .i64 1)),(.t 68)])]) (.seq (.region [8, 9] [o0 70 (.load (some 3) (.t 11)),
 o0 71 (.mv (.t 12)),
 o0 72 (.call .peek 618 [(.t 70),(.t 71)]),
 o0 73 (.extract (.t 72) 0),
 o0 74 (.extract (.t 72) 1),
 o2 (.store 2 (.t 8) (.t 73)),
 o0 9 (.mv (.t 74))]) .ret))))))))⟩
def x279L1 : XCode :=
 (.seq (.region [2, 3, 7, 10, 56, 57, 58, 59] [o0 59 (.bin .lss (.t 58) (.t 57))]) (.seq (.cond (.t 59) .skip (.exit 0)) (.seq (.block 1 (.seq (.region [2, 3, 7, 10, 12, 13, 56, 57, 58] [o0 60 (.mv (.t 58)),
 o0 61 (.idxA 2 (.t 56) (.t 58)),
 o0 62 (.load (some 2) (.t 61)),
 o0 13 (.alloc [(.int .u8 0),(.int .i64 0)]),
 o0 12 (.mv (.t 60)),
 o2 (.store 2 (.t 13) (.t 62))]) (.region [2, 3, 7, 10, 56, 57, 58] [o0 63 (.load (some 3) (.t 10)),
 o0 64 (.mv (.t 7)),
 o0 65 (.mv (.t 12)),
 o0 66 (.bin .add (.t 64) (.t 65)),
 o0 67 (.bin .mul (.c (.int .i64 2)) (.t 66)),
 o0 68 (.load (some 2) (.t 13)),
 o0 69 (.call .share 275 [(.t 63),(.t 67),(.t 68)])]))) (.region [2, 3, 7, 10, 56, 57, 58] [o0 70 (.bin .add (.t 58) (.c (.int .i64 1))),
 o0 58 (.mv (.t 70))]))))
def x279 : XFun :=
 ⟨[.tmp 6],(.seq (.region [1, 2, 3] [o0 3 (.box 3 (.t 0)),
 o0 6 (.mv (.c (.int .i64 0)))]) (.seq (.region [1, 2, 3, 7] [o0 14 (.load (some 3) (.t 3)),
 o0 15 (.call .peek 286 [(.t 14),(.c (.int .i64 0))]),
 o0 16 (.conv .i64 (.t 15)),
 o0 7 (.mv (.t 16))]) (.seq (.seq (.region [1, 2, 3, 7, 23] [o0 17 (.mv (.t 7)),
 o0 18 (.mv (.t 2)),
 o0 19 (.len (.t 18)),
 o0 20 (.bin .add (.t 17) (.t 19)),
 o0 21 (.load (some 3) (.t 3)),
 o0 22 (.call .peek 280 [.t 21]),
 o0 23 (.bin .gtr (.t 20) (.t 22))]) (.cond (.t 23) (.seq (.region [2, 3, 7, 8, 9] [o0 25 (.fieldA 0 (.t 3)),
 o0 26 (.load none (.t 25)),
 o0 27 (.mv (.t 1)),
 o0 28 (.load (some 3) (.t 3)),
 o0 29 (.call .peek 280 [.t 28]),
 o0 30 (.bin .mul (.c (.int .i64 2)) (.t 29)),
 o0 31 (.minmax false (.t 27) (.t 30)),
 o0 32 (.load (some 3) (.t 3)),
 o0 33 (.call .look 278 [.t 32]),
 o0 34 (.mv (.t 2)),
 o0 35 (.appendT 2 16 (.t 33) (.t 34) [(none,(.t 25))]),
 o0 36 (.call .touch 609 [(.t 26),(.t 31),(.t 35)]),
 o0 24 (.mv (.t 36)),
 o0 37 (.extract (.t 24) 0),
 o0 38 (.extract (.t 24) 1),
 o0 8 (.alloc [(.pointer none),(.int .i64 0),(.int .u8 0)]),
 o2 (.store 3 (.t 8) (.t 37)),
 o0 9 (.mv (.t 38))]) (.seq (.seq (.region [2, 3, 7, 8, 9, 40] [o0 39 (.mv (.t 9)),
 o0 40 (.bin .neq (.t 39) (.c (.int .i64 0)))]) (.cond (.t 40) (.seq (.region [6] [o0 41 (.mv (.t 9)),
 o0 6 (.mv (.t 41))]) .ret) .skip)) (.region [2, 3, 7] [o0 42 (.fieldA 0 (.t 3)),
 o0 43 (.load none (.t 42)),
 o0 44 (.fieldA 1 (.t 3)),
 o0 45 (.load none (.t 44)),
 o0 46 (.fieldA 1 (.t 8)),
 o0 47 (.load none (.t 46)),
 o0 48 (.conv .u64 (.t 47)),
 o0 49 (.bin .add (.t 48) (.c (.int .u64 1))),
 o0 50 (.call .share 178 [(.t 43),(.t 45),(.c (.int .i64 1)),(.t 49)])]))) (.seq (.region [2, 3, 7, 10] [o0 52 (.load (some 3) (.t 3)),
 o0 53 (.call .share 276 [.t 52]),
 o0 51 (.mv (.t 53)),
 o0 54 (.extract (.t 51) 0),
 o0 55 (.extract (.t 51) 1),
 o0 10 (.alloc [(.pointer none),(.int .i64 0),(.int .u8 0)]),
 o2 (.store 3 (.t 10) (.t 54)),
 o0 11 (.mv (.t 55))]) (.seq (.region [2, 3, 7, 10, 56, 57, 58] [o0 56 (.mv (.t 2)),
 o0 57 (.len (.t 56)),
 o0 58 (.mv (.c (.int .i64 0)))]) (.block 0 (.loop [2, 3, 7, 10, 56, 57, 58] x279L1)))))) (.seq (.region [6] [o0 71 (.fieldA 0 (.t 3)),
 o0 72 (.load none (.t 71)),
 o0 73 (.fieldA 1 (.t 3)),
 o0 74 (.load none (.t 73)),
 o0 75 (.mv (.t 7)),
 o0 76 (.mv (.t 2)),
 o0 77 (.len (.t 76)),
 o0 78 (.bin .add (.t 75) (.t 77)),
 o0 79 (.conv .u64 (.t 78)),
 o0 80 (.call .share 178 [(.t 72),(.t 74),(.c (.int .i64 0)),(.t 79)]),
 o0 6 (.mv (.t 80))]) .ret))))⟩
def x275 : XFun :=
 ⟨[],(.seq (.region [1, 3, 5] [o0 3 (.box 3 (.t 0)),
 o0 5 (.box 2 (.t 2))]) (.seq (.region [1, 3, 5] [o0 6 (.fieldA 0 (.t 3)),
 o0 7 (.load none (.t 6)),
 o0 8 (.fieldA 1 (.t 3)),
 o0 9 (.load none (.t 8)),
 o0 10 (.mv (.t 1)),
 o0 11 (.fieldA 0 (.t 5)),
 o0 12 (.load none (.t 11)),
 o0 13 (.conv .u64 (.t 12)),
 o0 14 (.call .share 178 [(.t 7),(.t 9),(.t 10),(.t 13)])]) (.region [] [o0 15 (.fieldA 0 (.t 3)),
 o0 16 (.load none (.t 15)),
 o0 17 (.fieldA 1 (.t 3)),
 o0 18 (.load none (.t 17)),
 o0 19 (.mv (.t 1)),
 o0 20 (.bin .add (.t 19) (.c (.int .i64 1))),
 o0 21 (.fieldA 1 (.t 5)),
 o0 22 (.load none (.t 21)),
 o0 23 (.conv .u64 (.t 22)),
 o0 24 (.call .share 178 [(.t 16),(.t 18),(.t 20),(.t 23)])])))⟩
def x278 : XFun :=
 ⟨[.tmp 2],(.seq (.region [1] [o0 1 (.box 3 (.t 0)),
 o0 2 (.mv (.c (.slice none 0 0)))]) (.seq (.region [1, 3] [o0 6 (.load (some 3) (.t 1)),
 o0 7 (.call .share 276 [.t 6]),
 o0 5 (.mv (.t 7)),
 o0 8 (.extract (.t 5) 0),
 o0 9 (.extract (.t 5) 1),
 o0 3 (.alloc [(.pointer none),(.int .i64 0),(.int .u8 0)]),
 o2 (.store 3 (.t 3) (.t 8)),
 o0 4 (.mv (.t 9))]) (.seq (.region [2] [o0 10 (.load (some 3) (.t 3)),
 o0 11 (.load (some 3) (.t 1)),
 o0 12 (.call .peek 286 [(.t 11),(.c (.int .i64 0))]),
 o0 13 (.conv .i64 (.t 12)),
 o0 14 (.call .look 284 [(.t 10),(.c (.int .i64 0)),(.t 13)]),
 o0 2 (.mv (.t 14))]) .ret)))⟩
def x752 : XFun :=
 ⟨[.tmp 4],(.seq (.region [0, 1] [o0 4 (.mv (.c (.bool false)))]) (.seq (.region [4] [o0 5 (.mv (.t 0)),
 o0 6 (.mv (.t 1)),
 o0 7 (.call .peek 762 [(.t 5),(.t 6)]),
 o0 8 (.bin .geq (.t 7) (.c (.int .i64 0))),
 o0 4 (.mv (.t 8))]) .ret))⟩
def x613 : XFun :=
 ⟨[.cell 4 (some 3),.tmp 5],(.seq (.region [0, 3, 4] [o0 3 (.box 2 (.t 1)),
 o0 4 (.alloc [(.pointer none),(.int .i64 0),(.int .u8 0)]),
 o0 5 (.mv (.c (.bool false)))]) (.seq (.region [0, 3, 4, 6, 7] [o0 9 (.mv (.t 0)),
 o0 10 (.fieldA 1 (.t 3)),
 o0 11 (.load none (.t 10)),
 o0 12 (.call .peek 171 [(.t 9),(.t 11)]),
 o0 8 (.mv (.t 12)),
 o0 13 (.extract (.t 8) 0),
 o0 14 (.extract (.t 8) 1),
 o0 6 (.mv (.t 13)),
 o0 7 (.mv (.t 14))]) (.seq (.region [4, 5] [o0 15 (.mv (.t 0)),
 o0 16 (.fieldA 1 (.t 3)),
 o0 17 (.load none (.t 16)),
 o0 18 (.fieldA 0 (.t 3)),
 o0 19 (.load none (.t 18)),
 o0 20 (.build [(.pointer none),(.int .i64 0),(.int .u8 0)] [(0, 1,(.t 15)),(1, 1,(.t 17)),(2, 1,(.t 19))]),
 o0 21 (.mv (.t 7)),
 o0 22 (.bin .eql (.t 21) (.c (.int .i64 0))),
 o0 23 (.mv (.t 22)),
 o1 24 23 true (.mv (.t 6)),
 o1 25 23 true (.fieldA 0 (.t 3)),
 o1 26 23 true (.load none (.t 25)),
 o1 27 23 true (.bin .eql (.t 24) (.t 26)),
 o0 28 (.pick (.t 23) (.t 27) (.c (.bool false))),
 o0 29 (.mv (.t 28)),
 o1 30 29 true (.mv (.t 6)),
 o1 31 29 true (.bin .lss (.t 30) (.c (.int .u8 8))),
 o0 32 (.pick (.t 29) (.t 31) (.c (.bool false))),
 o2 (.store 3 (.t 4) (.t 20)),
 o0 5 (.mv (.t 32))]) .ret)))⟩
def x277 : XFun :=
 ⟨[.tmp 2],(.seq (.region [1] [o0 1 (.box 3 (.t 0)),
 o0 2 (.mv (.c (.bool false)))]) (.seq (.region [1, 3, 4] [o0 8 (.load (some 3) (.t 1)),
 o0 9 (.call .peek 281 [.t 8]),
 o0 10 (.load (some 3) (.t 1)),
 o0 11 (.call .peek 286 [(.t 10),(.c (.int .i64 0))]),
 o0 3 (.mv (.t 9)),
 o0 4 (.mv (.t 11))]) (.seq (.seq (.region [1, 3, 4, 13] [o0 12 (.fieldA 2 (.t 1)),
 o0 13 (.load none (.t 12))]) (.block 0 (.seq (.region [1, 3, 4, 13, 14] [o0 15 (.bin .eql (.t 13) (.c (.int .u8 3))),
 o0 14 (.mv (.t 15))]) (.cond (.t 14) (.seq (.region [2] [o0 16 (.mv (.t 3)),
 o0 17 (.bin .gtr (.t 16) (.c (.int .i64 0))),
 o0 18 (.mv (.t 17)),
 o1 19 18 true (.mv (.t 4)),
 o1 20 18 true (.bin .leq (.t 19) (.c (.int .u64 4096))),
 o0 21 (.pick (.t 18) (.t 20) (.c (.bool false))),
 o0 22 (.mv (.t 21)),
 o1 23 22 true (.mv (.t 3)),
 o1 24 22 true (.mv (.t 4)),
 o1 25 22 true (.conv .i64 (.t 24)),
 o1 26 22 true (.bin .add (.t 25) (.c (.int .i64 7))),
 o1 27 22 true (.bin .quo (.t 26) (.c (.int .i64 8))),
 o1 28 22 true (.bin .add (.c (.int .i64 1)) (.t 27)),
 o1 29 22 true (.bin .eql (.t 23) (.t 28)),
 o0 30 (.pick (.t 22) (.t 29) (.c (.bool false))),
 o0 2 (.mv (.t 30))]) .ret) (.seq (.seq (.region [1, 3, 4, 13, 31] [o0 32 (.bin .eql (.t 13) (.c (.int .u8 4))),
 o0 31 (.mv (.t 32))]) (.cond (.t 31) .skip (.region [1, 3, 4, 13, 31] [o0 33 (.bin .eql (.t 13) (.c (.int .u8 5))),
 o0 31 (.mv (.t 33))]))) (.cond (.t 31) (.seq (.region [1, 3, 4, 5] [o0 5 (.mv (.c (.int .u64 65536)))]) (.seq (.seq (.region [1, 3, 4, 5, 36] [o0 34 (.fieldA 2 (.t 1)),
 o0 35 (.load none (.t 34)),
 o0 36 (.bin .eql (.t 35) (.c (.int .u8 5)))]) (.cond (.t 36) (.region [1, 3, 4, 5] [o0 37 (.mv (.t 5)),
 o0 38 (.bin .mul (.t 37) (.c (.int .u64 2))),
 o0 5 (.mv (.t 38))]) .skip)) (.seq (.seq (.region [1, 4, 55] [o0 39 (.mv (.t 3)),
 o0 40 (.bin .neq (.t 39) (.c (.int .i64 2))),
 o0 41 (.mv (.t 40)),
 o1 42 41 false (.mv (.t 4)),
 o1 43 41 false (.mv (.t 5)),
 o1 44 41 false (.bin .gtr (.t 42) (.t 43)),
 o0 45 (.pick (.t 41) (.c (.bool true)) (.t 44)),
 o0 46 (.mv (.t 45)),
 o1 47 46 false (.fieldA 2 (.t 1)),
 o1 48 46 false (.load none (.t 47)),
 o1 49 46 false (.bin .eql (.t 48) (.c (.int .u8 5))),
 o1 50 46 false (.mv (.t 49)),
 o1 51 50 true (.mv (.t 4)),
 o1 52 50 true (.bin .rem (.t 51) (.c (.int .u64 2))),
 o1 53 50 true (.bin .neq (.t 52) (.c (.int .u64 0))),
 o1 54 46 false (.pick (.t 50) (.t 53) (.c (.bool false))),
 o0 55 (.pick (.t 46) (.c (.bool true)) (.t 54))]) (.cond (.t 55) (.seq (.region [2] [o0 2 (.mv (.c (.bool false)))]) .ret) .skip)) (.seq (.seq (.region [1, 4, 58] [o0 56 (.load (some 3) (.t 1)),
 o0 57 (.call .peek 286 [(.t 56),(.c (.int .i64 1))]),
 o0 58 (.bin .eql (.t 57) (.c (.int .u64 0)))]) (.cond (.t 58) (.seq (.region [2] [o0 59 (.mv (.t 4)),
 o0 60 (.bin .eql (.t 59) (.c (.int .u64 0))),
 o0 2 (.mv (.t 60))]) .ret) .skip)) (.seq (.region [4, 6, 7] [o0 62 (.load (some 3) (.t 1)),
 o0 63 (.call .share 276 [.t 62]),
 o0 61 (.mv (.t 63)),
 o0 64 (.extract (.t 61) 0),
 o0 65 (.extract (.t 61) 1),
 o0 6 (.alloc [(.pointer none),(.int .i64 0),(.int .u8 0)]),
 o2 (.store 3 (.t 6) (.t 64)),
 o0 7 (.mv (.t 65))]) (.seq (.region [2] [o0 66 (.mv (.t 7)),
 o0 67 (.mv (.t 66)),
 o1 68 67 true (.load (some 3) (.t 6)),
 o1 69 67 true (.call .peek 281 [.t 68]),
 o1 70 67 true (.bin .rem (.t 69) (.c (.int .i64 2))),
 o1 71 67 true (.bin .eql (.t 70) (.c (.int .i64 0))),
 o0 72 (.pick (.t 67) (.t 71) (.c (.bool false))),
 o0 73 (.mv (.t 72)),
 o1 74 73 true (.mv (.t 4)),
 o1 75 73 true (.load (some 3) (.t 6)),
 o1 76 73 true (.call .peek 281 [.t 75]),
 o1 77 73 true (.bin .quo (.t 76) (.c (.int .i64 2))),
 o1 78 73 true (.conv .u64 (.t 77)),
 o1 79 73 true (.bin .leq (.t 74) (.t 78)),
 o0 80 (.pick (.t 73) (.t 79) (.c (.bool false))),
 o0 2 (.mv (.t 80))]) .ret)))))) (.seq (.region [3, 4, 81] [o0 82 (.bin .eql (.t 13) (.c (.int .u8 6))),
 o0 81 (.mv (.t 82))]) (.cond (.t 81) (.seq (.region [2] [o0 83 (.mv (.t 3)),
 o0 84 (.bin .rem (.t 83) (.c (.int .i64 2))),
 o0 85 (.bin .eql (.t 84) (.c (.int .i64 1))),
 o0 86 (.mv (.t 85)),
 o1 87 86 true (.mv (.t 4)),
 o1 88 86 true (.bin .leq (.t 87) (.c (.int .u64 4611686018427387904))),
 o0 89 (.pick (.t 86) (.t 88) (.c (.bool false))),
 o0 2 (.mv (.t 89))]) .ret) .skip)))))))) (.seq (.region [2] [o0 90 (.mv (.t 3)),
 o0 91 (.bin .eql (.t 90) (.c (.int .i64 2))),
 o0 2 (.mv (.t 91))]) .ret))))⟩
def x614 : XFun :=
 ⟨[.cell 4 (some 3),.tmp 5],(.seq (.region [0, 1, 4] [o0 4 (.alloc [(.pointer none),(.int .i64 0),(.int .u8 0)]),
 o0 5 (.mv (.c (.bool false)))]) (.seq (.region [0, 1, 4, 6, 7] [o0 9 (.mv (.t 0)),
 o0 10 (.mv (.t 1)),
 o0 11 (.call .peek 171 [(.t 9),(.t 10)]),
 o0 8 (.mv (.t 11)),
 o0 12 (.extract (.t 8) 0),
 o0 13 (.extract (.t 8) 1),
 o0 6 (.mv (.t 12)),
 o0 7 (.mv (.t 13))]) (.seq (.region [4, 5] [o0 14 (.mv (.t 0)),
 o0 15 (.mv (.t 1)),
 o0 16 (.build [(.pointer none),(.int .i64 0),(.int .u8 0)] [(0, 1,(.t 14)),(1, 1,(.t 15)),(2, 1,(.c (.int .u8 8)))]),
 o0 17 (.mv (.t 7)),
 o0 18 (.bin .eql (.t 17) (.c (.int .i64 0))),
 o0 19 (.mv (.t 18)),
 o1 20 19 true (.mv (.t 6)),
 o1 21 19 true (.bin .eql (.t 20) (.c (.int .u8 8))),
 o0 22 (.pick (.t 19) (.t 21) (.c (.bool false))),
 o2 (.store 3 (.t 4) (.t 16)),
 o0 5 (.mv (.t 22))]) .ret)))⟩
def x749 : XFun :=
 ⟨[.tmp 4],(.seq (.region [0, 1] [o0 4 (.mv (.c (.bool false)))]) (.seq (.region [4] [o0 5 (.mv (.t 0)),
 o0 6 (.mv (.t 1)),
 o0 7 (.call .share 759 [(.t 5),(.t 6)]),
 o0 8 (.bin .geq (.t 7) (.c (.int .i64 0))),
 o0 4 (.mv (.t 8))]) .ret))⟩
def x607 : XFun :=
 ⟨[.tmp 4],(.seq (.region [1, 2, 3] [o0 3 (.box 2 (.t 0)),
 o0 4 (.mv (.c (.bool false)))]) (.seq (.region [4] [o0 5 (.load none (.t 1)),
 o0 6 (.load none (.t 2)),
 o0 7 (.load (some 2) (.t 3)),
 o0 8 (.callV (.t 5) [(.t 6),(.t 7)]),
 o0 9 (.un .not (.t 8)),
 o0 4 (.mv (.t 9))]) .ret))⟩
def x609L1 : XCode :=
 (.seq (.region [6, 8, 9, 21, 22, 23, 24] [o0 24 (.bin .lss (.t 23) (.t 22))]) (.seq (.cond (.t 24) .skip (.exit 0)) (.seq (.block 1 (.seq (.region [6, 8, 9, 10, 11, 21, 22, 23] [o0 25 (.mv (.t 23)),
 o0 26 (.idxA 2 (.t 21) (.t 23)),
 o0 27 (.load (some 2) (.t 26)),
 o0 11 (.alloc [(.int .u8 0),(.int .i64 0)]),
 o0 10 (.mv (.t 25)),
 o2 (.store 2 (.t 11) (.t 27))]) (.region [6, 8, 9, 21, 22, 23] [o0 28 (.load (some 3) (.t 8)),
 o0 29 (.mv (.t 10)),
 o0 30 (.bin .mul (.c (.int .i64 2)) (.t 29)),
 o0 31 (.load (some 2) (.t 11)),
 o0 32 (.call .share 275 [(.t 28),(.t 30),(.t 31)])]))) (.region [6, 8, 9, 21, 22, 23] [o0 33 (.bin .add (.t 23) (.c (.int .i64 1))),
 o0 23 (.mv (.t 33))]))))
def x609 : XFun :=
 ⟨[.cell 6 (some 3),.tmp 7],(.seq (.region [0, 1, 2, 6] [o0 6 (.alloc [(.pointer none),(.int .i64 0),(.int .u8 0)]),
 o0 7 (.mv (.c (.int .i64 0)))]) (.seq (.region [2, 6, 8, 9] [o0 13 (.mv (.t 0)),
 o0 14 (.mv (.t 1)),
 o0 15 (.bin .mul (.c (.int .i64 2)) (.t 14)),
 o0 16 (.call .share 615 [(.t 13),(.c (.int .u8 8)),(.t 15)]),
 o0 12 (.mv (.t 16)),
 o0 17 (.extract (.t 12) 0),
 o0 18 (.extract (.t 12) 1),
 o0 8 (.alloc [(.pointer none),(.int .i64 0),(.int .u8 0)]),
 o2 (.store 3 (.t 8) (.t 17)),
 o0 9 (.mv (.t 18))]) (.seq (.seq (.region [2, 6, 8, 9, 20] [o0 19 (.mv (.t 9)),
 o0 20 (.bin .eql (.t 19) (.c (.int .i64 0)))]) (.cond (.t 20) (.seq (.region [6, 8, 9, 21, 22, 23] [o0 21 (.mv (.t 2)),
 o0 22 (.len (.t 21)),
 o0 23 (.mv (.c (.int .i64 0)))]) (.block 0 (.loop [6, 8, 9, 21, 22, 23] x609L1))) .skip)) (.seq (.region [6, 7] [o0 34 (.load (some 3) (.t 8)),
 o0 35 (.mv (.t 9)),
 o2 (.store 3 (.t 6) (.t 34)),
 o0 7 (.mv (.t 35))]) .ret))))⟩
def x280 : XFun :=
 ⟨[.tmp 2],(.seq (.region [1] [o0 1 (.box 3 (.t 0)),
 o0 2 (.mv (.c (.int .i64 0)))]) (.seq (.seq (.region [1, 3, 4] [o0 6 (.load (some 3) (.t 1)),
 o0 7 (.call .share 276 [.t 6]),
 o0 5 (.mv (.t 7)),
 o0 8 (.extract (.t 5) 0),
 o0 9 (.extract (.t 5) 1),
 o0 3 (.alloc [(.pointer none),(.int .i64 0),(.int .u8 0)]),
 o2 (.store 3 (.t 3) (.t 8)),
 o0 4 (.mv (.t 9))]) (.seq (.region [3, 15] [o0 10 (.mv (.t 4)),
 o0 11 (.mv (.t 10)),
 o1 12 11 true (.load (some 3) (.t 1)),
 o1 13 11 true (.call .peek 286 [(.t 12),(.c (.int .i64 1))]),
 o1 14 11 true (.bin .neq (.t 13) (.c (.int .u64 0))),
 o0 15 (.pick (.t 11) (.t 14) (.c (.bool false)))]) (.cond (.t 15) (.seq (.region [2] [o0 16 (.load (some 3) (.t 3)),
 o0 17 (.call .peek 281 [.t 16]),
 o0 18 (.bin .quo (.t 17) (.c (.int .i64 2))),
 o0 2 (.mv (.t 18))]) .ret) .skip))) (.seq (.region [2] [o0 2 (.mv (.c (.int .i64 0)))]) .ret)))⟩
def x284L1 : XCode :=
 (.seq (.region [1, 3, 6, 8, 9, 10] [o0 10 (.bin .lss (.t 9) (.t 8))]) (.seq (.cond (.t 10) .skip (.exit 0)) (.seq (.block 1 (.seq (.region [1, 3, 6, 7, 8, 9] [o0 11 (.mv (.t 9)),
 o0 7 (.mv (.t 11))]) (.region [1, 3, 6, 8, 9] [o0 12 (.mv (.t 6)),
 o0 13 (.load (some 3) (.t 3)),
 o0 14 (.mv (.t 1)),
 o0 15 (.mv (.t 7)),
 o0 16 (.bin .mul (.c (.int .i64 2)) (.t 15)),
 o0 17 (.bin .add (.t 14) (.t 16)),
 o0 18 (.call .peek 283 [(.t 13),(.t 17)]),
 o0 19 (.buildSlice 2 [(.int .u8 0),(.int .i64 0)] 1 [(0, 2,(.t 18))]),
 o0 20 (.append 2 16 (.t 12) (.t 19)),
 o0 6 (.mv (.t 20))]))) (.region [1, 3, 6, 8, 9] [o0 21 (.bin .add (.t 9) (.c (.int .i64 1))),
 o0 9 (.mv (.t 21))]))))
def x284 : XFun :=
 ⟨[.tmp 6],(.seq (.region [1, 2, 3, 6] [o0 3 (.box 3 (.t 0)),
 o0 6 (.mv (.c (.slice none 0 0)))]) (.seq (.seq (.region [1, 3, 6, 8, 9] [o0 8 (.mv (.t 2)),
 o0 9 (.mv (.c (.int .i64 0)))]) (.block 0 (.loop [1, 3, 6, 8, 9] x284L1))) (.seq (.region [6] [o0 22 (.mv (.t 6)),
 o0 6 (.mv (.t 22))]) .ret)))⟩
def x762L1 : XCode :=
 (.seq (.region [0, 1, 7, 8, 9] [o0 9 (.bin .lss (.t 8) (.t 7))]) (.seq (.cond (.t 9) .skip (.exit 0)) (.seq (.block 1 (.seq (.region [0, 1, 5, 7, 8] [o0 10 (.mv (.t 8)),
 o0 5 (.mv (.t 10))]) (.seq (.region [0, 1, 5, 7, 8, 16] [o0 11 (.mv (.t 1)),
 o0 12 (.mv (.t 0)),
 o0 13 (.mv (.t 5)),
 o0 14 (.idxA 1 (.t 12) (.t 13)),
 o0 15 (.load none (.t 14)),
 o0 16 (.bin .eql (.t 11) (.t 15))]) (.cond (.t 16) (.seq (.region [4] [o0 17 (.mv (.t 5)),
 o0 4 (.mv (.t 17))]) .ret) .skip)))) (.region [0, 1, 7, 8] [o0 18 (.bin .add (.t 8) (.c (.int .i64 1))),
 o0 8 (.mv (.t 18))]))))
def x762 : XFun :=
 ⟨[.tmp 4],(.seq (.region [0, 1] [o0 4 (.mv (.c (.int .i64 0)))]) (.seq (.seq (.region [0, 1, 7, 8] [o0 6 (.mv (.t 0)),
 o0 7 (.len (.t 6)),
 o0 8 (.mv (.c (.int .i64 0)))]) (.block 0 (.loop [0, 1, 7, 8] x762L1))) (.seq (.region [4] [o0 4 (.mv (.c (.int .i64 (-1))))]) .ret)))⟩
def x171 : XFun :=
 ⟨[.tmp 4,.tmp 5],(.seq (.region [0, 1] [o0 4 (.mv (.c (.int .u8 0))),
 o0 5 (.mv (.c (.int .i64 0)))]) (.seq (.seq (.region [0, 1, 7] [o0 9 (.mv (.t 0)),
 o0 10 (.mv (.t 1)),
 o0 11 (.call .share 184 [(.t 9),(.t 10)]),
 o0 8 (.mv (.t 11)),
 o0 12 (.extract (.t 8) 0),
 o0 13 (.extract (.t 8) 1),
 o0 6 (.mv (.t 12)),
 o0 7 (.mv (.t 13))]) (.seq (.region [0, 1, 7, 15] [o0 14 (.mv (.t 7)),
 o0 15 (.bin .neq (.t 14) (.c (.int .i64 0)))]) (.cond (.t 15) (.seq (.region [4, 5] [o0 16 (.mv (.t 7)),
 o0 4 (.mv (.c (.int .u8 0))),
 o0 5 (.mv (.t 16))]) .ret) .skip))) (.seq (.region [4, 5] [o0 17 (.mv (.t 0)),
 o0 18 (.nilCheck (.t 17)),
 o0 19 (.fieldA 0 (.t 18)),
 o0 20 (.load none (.t 19)),
 o0 21 (.mv (.t 1)),
 o0 22 (.idxA 1 (.t 20) (.t 21)),
 o0 23 (.load none (.t 22)),
 o0 24 (.bin .and (.t 23) (.c (.int .u64 255))),
 o0 25 (.conv .u8 (.t 24)),
 o0 4 (.mv (.t 25)),
 o0 5 (.mv (.c (.int .i64 0)))]) .ret)))⟩
def x281 : XFun :=
 ⟨[.tmp 2],(.seq (.region [1] [o0 1 (.box 3 (.t 0)),
 o0 2 (.mv (.c (.int .i64 0)))]) (.seq (.region [3] [o0 6 (.fieldA 0 (.t 1)),
 o0 7 (.load none (.t 6)),
 o0 8 (.fieldA 1 (.t 1)),
 o0 9 (.load none (.t 8)),
 o0 10 (.call .peek 175 [(.t 7),(.t 9)]),
 o0 5 (.mv (.t 10)),
 o0 11 (.extract (.t 5) 0),
 o0 12 (.extract (.t 5) 1),
 o0 3 (.mv (.t 11)),
 o0 4 (.mv (.t 12))]) (.seq (.region [2] [o0 13 (.mv (.t 3)),
 o0 2 (.mv (.t 13))]) .ret)))⟩
def x759L1 : XCode :=
 (.seq (.region [0, 1, 7, 8, 9] [o0 9 (.bin .lss (.t 8) (.t 7))]) (.seq (.cond (.t 9) .skip (.exit 0)) (.seq (.block 1 (.seq (.region [0, 1, 5, 7, 8] [o0 10 (.mv (.t 8)),
 o0 5 (.mv (.t 10))]) (.seq (.region [0, 1, 5, 7, 8, 16] [o0 11 (.mv (.t 1)),
 o0 12 (.mv (.t 0)),
 o0 13 (.mv (.t 5)),
 o0 14 (.idxA 2 (.t 12) (.t 13)),
 o0 15 (.load (some 2) (.t 14)),
 o0 16 (.callP (.t 11) [.t 15])]) (.cond (.t 16) (.seq (.region [4] [o0 17 (.mv (.t 5)),
 o0 4 (.mv (.t 17))]) .ret) .skip)))) (.region [0, 1, 7, 8] [o0 18 (.bin .add (.t 8) (.c (.int .i64 1))),
 o0 8 (.mv (.t 18))]))))
def x759 : XFun :=
 ⟨[.tmp 4],(.seq (.region [0, 1] [o0 4 (.mv (.c (.int .i64 0)))]) (.seq (.seq (.region [0, 1, 7, 8] [o0 6 (.mv (.t 0)),
 o0 7 (.len (.t 6)),
 o0 8 (.mv (.c (.int .i64 0)))]) (.block 0 (.loop [0, 1, 7, 8] x759L1))) (.seq (.region [4] [o0 4 (.mv (.c (.int .i64 (-1))))]) .ret)))⟩
end Go.EX


set_option linter.unusedVariables false
set_option linter.unusedSimpArgs false
namespace Go.EX
structure TextCode (code : Nat → Option XFun) : Prop where
 small : Smalls code
 c169 : code 169 = some x169
 c171 : code 171 = some x171
 c174 : code 174 = some x174
 c175 : code 175 = some x175
 c176 : code 176 = some x176
 c177 : code 177 = some x177
 c178 : code 178 = some x178
 c276 : code 276 = some x276
 c277 : code 277 = some x277
 c281 : code 281 = some x281
 c282 : code 282 = some x282
 c286 : code 286 = some x286
 c436 : code 436 = some x436
 c437 : code 437 = some x437
 c567 : code 567 = some x567
 c592 : code 592 = some x592
 c594 : code 594 = some x594
 c599 : code 599 = some x599
 c603 : code 603 = some x603
 c605 : code 605 = some x605
 c610 : code 610 = some x610
 c611 : code 611 = some x611
 c613 : code 613 = some x613
 c614 : code 614 = some x614
 c615 : code 615 = some x615
 c616 : code 616 = some x616
 c618 : code 618 = some x618
 c752 : code 752 = some x752
 c762 : code 762 = some x762
abbrev uint8 (k : Int) : AV := .imm (.val (.int .u8 k))
abbrev objV (a k : Int) : AV := .agg [.optr 0 0, int64 a, uint8 k]
abbrev valV (k n : Int) : AV := .agg [uint8 k, int64 n]
section
variable {code : Nat → Option XFun} {ext : Calls'}
theorem zre (c : TextCode code) {W B : List Nat} {e a n i v : Nat} (o : ObjAt W B e a n) (hi : i < n) (hv : W[a + 1 + i]? = some v) (k : Int) :
  callW code ext 286 [objV a k, int64 i] (hMem W B e) = some (uint64 v, hMem W B e) := by
 have h1 := zl7 (ext := ext) c.small c.c174 o hi hv
 rw [zbw code ext c.c286]
 simp -implicitDefEqProofs [x286, h1]
theorem zki (c : TextCode code) {W B : List Nat} {e a n : Nat} (o : ObjAt W B e a n) (k : Int) :
  callW code ext 281 [objV a k] (hMem W B e) = some (int64 n, hMem W B e) := by
 have h1 := zo2 (ext := ext) c.small c.c175 o
 rw [zbw code ext c.c281]
 simp -implicitDefEqProofs [x281, h1]
theorem zhy {w : Nat} (hw : w < 18446744073709551616) : ∃ g : Nat, intBin .and .u64 w 255 = some (.int .u64 g) ∧ IntKind.wrap .u8 (g : Int) = ((w % 256 : Nat) : Int) := by
 refine ⟨w &&& 255, zaz hw (by decide), ?_⟩
 have : w &&& 255 = w % 256 := Nat.and_two_pow_sub_one_eq_mod w 8
 rw [this, wrapU8 (by omega) (by omega)]
theorem zh0 (c : TextCode code) {W B : List Nat} {e a n w : Nat} (o : ObjAt W B e a n) (hw : W[a]? = some w) :
  callW code ext 171 [.optr 0 0, int64 a] (hMem W B e) = some (.tup [uint8 (w % 256 : Nat), int64 0], hMem W B e) := by
 have h1 := zis (ext := ext) c.small o
 obtain ⟨w', w1, _, w3⟩ := o.head
 have : w' = w := Option.some.inj (w1.symm.trans hw)
 subst this
 have h2 := zqu hw
 obtain ⟨g, g1, g2⟩ := zhy w3
 have e1 : (a : Int) < W.length := by have := o.lt; have := o.top; omega
 have e2 : a < W.length := by omega
 rw [zbw code ext c.c171]
 simp -implicitDefEqProofs [-intBin, b_neq, x171, h1, h2, e1, e2, g1, g2]
theorem zhz (c : TextCode code) {W B : List Nat} {e : Nat} {i : Int} (hW : 1 ≤ W.length) (he : e ≤ 1048576) (o : NoObj B e i) :
  callW code ext 171 [.optr 0 0, int64 i] (hMem W B e) = some (.tup [uint8 0, int64 1], hMem W B e) := by
 have h1 := zir (ext := ext) c.small hW he o
 rw [zbw code ext c.c171]
 simp -implicitDefEqProofs [x171, h1]
end
end Go.EX


set_option linter.unusedVariables false
set_option linter.unusedSimpArgs false
namespace Go.EX
def bsO (l : List UInt8) : ByteArray := ⟨l.toArray⟩
@[simp] theorem bsO_size (l : List UInt8) : (bsO l).size = l.length := rfl
abbrev kMem (W B : List Nat) (e : Nat) (o : AObj) : Mem := [.rich [.osl 2 0 1 W.length (some W.length), .osl 3 0 1 B.length (some B.length), int64 e], o, .flat (urow W) false, .flat (urow B) false]
section
variable {code : Nat → Option XFun} {ext : Calls'}
theorem zj0 (c : TextCode code) (W B : List Nat) (e : Nat) (hW : 1 ≤ W.length) : callW code ext 611 [.optr 0 0] (hMem W B e) = some (avb false, hMem W B e) := by
 have h1 := zrf (ext := ext) c.c177 W B e
 have e1 : ¬ (W.length : Int) = 0 := by omega
 have e2 : ¬ W = [] := fun h => by rw [h] at hW; simp at hW
 rw [zbw code ext c.c611]
 simp -implicitDefEqProofs [x611, h1, e1, e2]
theorem zia (c : TextCode code) {W B : List Nat} {e a n w : Nat} (o : ObjAt W B e a n) (hw : W[a]? = some w) (hk : w % 256 < 8) :
  callW code ext 613 [.optr 0 0, valV (w % 256 : Nat) a] (hMem W B e) = some (.tup [objV a (w % 256 : Nat), avb true], hMem W B e) := by
 have h1 := zh0 (ext := ext) c o hw
 generalize hq : w % 256 = q at *
 have e1 : (q : Int) < 8 := by omega
 rw [zbw code ext c.c613]
 simp -implicitDefEqProofs [x613, h1, e1]
theorem TextAt.kind {W B : List Nat} {e a : Nat} {s : List UInt8} (h : TextAt W B e a s) : ((1 + tN s) * 256 + 3) % 256 = 3 := by omega
theorem zib (c : TextCode code) {W B : List Nat} {e a : Nat} {s : List UInt8} (hi : HI W B e) (h : TextAt W B e a s) :
  callW code ext 613 [.optr 0 0, valV 3 a] (hMem W B e) = some (.tup [objV a 3, avb true], hMem W B e) := by
 have := zia (ext := ext) c (h.obj hi) h.head (by rw [h.kind]; decide)
 rw [h.kind] at this
 exact this
end
end Go.EX


set_option linter.unusedVariables false
set_option linter.unusedSimpArgs false
namespace Go.EX
section
variable {code : Nat → Option XFun} {ext : Calls'}
theorem zav (c : TextCode code) {W B : List Nat} {e : Nat} (hi : HI W B e) {k n : Nat} (hk : 3 ≤ k) (hk2 : k ≤ 8) (hn : n + e < W.length) :
  callW code ext 169 [.optr 0 0, .imm (.val (.int .u8 k)), int64 n] (hMem W B e) = some (.tup [int64 e, int64 0], hMem (setAll (W.set e (n * 256 + k)) (e + 1) (List.replicate n 0)) (setBit B e) (e + n + 1)) := by
 obtain ⟨b, g1, g2, _⟩ := hi.word (i := e) hi.top
 have := zax (ext := ext) c.small c.c169 (W := W) (B := B) (e := e) hk hk2 hn hi.bd g1 g2
 rw [this, setBit, g1]; rfl
theorem ziy (c : TextCode code) {W B : List Nat} {e : Nat} (hi : HI W B e) {k n : Nat} (hk : 3 ≤ k) (hk2 : k ≤ 8) (hn : n + e < W.length) :
  callW code ext 615 [.optr 0 0, uint8 k, int64 n] (hMem W B e) = some (.tup [objV e k, int64 0], hMem (setAll (W.set e (n * 256 + k)) (e + 1) (List.replicate n 0)) (setBit B e) (e + n + 1)) := by
 have h1 := zav (ext := ext) c hi hk hk2 hn
 have hl : (setAll (W.set e (n * 256 + k)) (e + 1) (List.replicate n 0)).length = W.length := by rw [zoj, List.length_set]
 have hb : (setBit B e).length = B.length := by simp [setBit]
 generalize setAll (W.set e (n * 256 + k)) (e + 1) (List.replicate n 0) = W' at *
 generalize setBit B e = B' at *
 generalize e + n + 1 = e' at *
 simp only [hMem, hl, hb] at h1
 rw [zbw code ext c.c615]
 simp -implicitDefEqProofs [x615, h1, hl, hb]
theorem zp3 (c : TextCode code) (W B : List Nat) (e : Nat) (a k : Int) : callW code ext 618 [objV a k, int64 0] (hMem W B e) = some (.tup [valV k a, int64 0], hMem W B e) := by
 rw [zbw code ext c.c618]
 simp -implicitDefEqProofs [x618]
end
end Go.EX


set_option linter.unusedVariables false
set_option linter.unusedSimpArgs false
namespace Go.EX
structure At (W B : List Nat) (e a k : Nat) (ws : List Nat) : Prop where
 bit : bitAt B a = true
 top : a + 1 + ws.length ≤ e
 head : W[a]? = some (ws.length * 256 + k)
 word : ∀ i, i < ws.length → W[a + 1 + i]? = ws[i]?
 small : k < 256
theorem At.hd {W B : List Nat} {e a k : Nat} {ws : List Nat} (h : At W B e a k ws) : hd W a = ws.length := by
 unfold Go.EX.hd
 rw [h.head]
 have := h.small
 simp only [Option.getD_some]
 omega
theorem At.obj {W B : List Nat} {e a k : Nat} {ws : List Nat} (h : At W B e a k ws) (hi : HI W B e) : ObjAt W B e a ws.length := by
 have := hi.obj h.bit
 rwa [h.hd] at this
theorem At.kind {W B : List Nat} {e a k : Nat} {ws : List Nat} (h : At W B e a k ws) : (ws.length * 256 + k) % 256 = k := by
 have := h.small; omega
def textW (s : List UInt8) : List Nat := s.length :: (List.range (tN s)).map (tW s)
theorem zpw (s : List UInt8) : (textW s).length = 1 + tN s := by simp [textW]; omega
theorem TextAt.at {W B : List Nat} {e a : Nat} {s : List UInt8} (h : TextAt W B e a s) : At W B e a 3 (textW s) := by
 have ht := h.top
 refine ⟨h.bit, by rw [zpw]; omega, by rw [zpw]; exact h.head, fun i hi => ?_, by decide⟩
 rw [zpw] at hi
 cases i with
 | zero => rw [Nat.add_zero, h.len]; rfl
 | succ i =>
  have := h.word i (by omega)
  rw [show a + 1 + (i + 1) = a + 2 + i by omega, this]
  simp [textW, show i < tN s by omega]
theorem At.text {W B : List Nat} {e a : Nat} {s : List UInt8} (h : At W B e a 3 (textW s)) : TextAt W B e a s := by
 have ht := h.top
 rw [zpw] at ht
 refine ⟨h.bit, by omega, by have := h.head; rwa [zpw] at this, ?_, fun j hj => ?_⟩
 ·have := h.word 0 (by rw [zpw]; omega)
  rw [Nat.add_zero] at this
  rw [this]; rfl
 ·have := h.word (j + 1) (by rw [zpw]; omega)
  rw [show a + 1 + (j + 1) = a + 2 + j by omega] at this
  rw [this]
  simp [textW, hj]
theorem At.apart {W B : List Nat} {e a b k l : Nat} {ws us : List Nat} (hi : HI W B e) (h : At W B e a k ws) (g : At W B e b l us) (hab : a ≠ b) : a + 1 + ws.length ≤ b ∨ b + 1 + us.length ≤ a := by
 rcases Nat.lt_or_ge a b with h1 | h1
 ·left
  have := hi.apart a b h.bit g.bit h1
  rw [h.hd] at this
  exact this
 ·right
  have := hi.apart b a g.bit h.bit (by omega)
  rw [g.hd] at this
  exact this
theorem At.write {W B : List Nat} {e a k i v : Nat} {ws : List Nat} (h : At W B e a k ws) (hi : i < ws.length) (he : e ≤ W.length) : At (W.set (a + 1 + i) v) B e a k (ws.set i v) := by
 have ht := h.top
 refine ⟨h.bit, by rw [List.length_set]; exact ht, by rw [List.length_set, List.getElem?_set_ne (by omega)]; exact h.head, fun j hj => ?_, h.small⟩
 rw [List.length_set] at hj
 by_cases hji : i = j
 ·subst hji
  rw [List.getElem?_set_self (by omega), List.getElem?_set_self hi]
 ·rw [List.getElem?_set_ne (by omega), List.getElem?_set_ne hji]; exact h.word j hj
theorem At.other {W B : List Nat} {e a b k l i v : Nat} {ws us : List Nat} (hi : HI W B e) (h : At W B e a k ws) (hil : i < ws.length) (g : At W B e b l us) (hab : a ≠ b) : At (W.set (a + 1 + i) v) B e b l us := by
 have hap := At.apart hi h g hab
 have hne : ∀ j, j ≤ us.length → a + 1 + i ≠ b + j := fun j hj => by omega
 refine ⟨g.bit, g.top, ?_, fun j hj => ?_, g.small⟩
 ·rw [List.getElem?_set_ne (by have := hne 0 (by omega); omega)]; exact g.head
 ·rw [List.getElem?_set_ne (by have := hne (1 + j) (by omega); omega)]; exact g.word j hj
theorem At.more {W B : List Nat} {e a k : Nat} {ws : List Nat} (h : At W B e a k ws) {W' B' : List Nat} {e' : Nat} (he : e ≤ e') (hw : ∀ i, i < e → W'[i]? = W[i]?) (hb : ∀ i, i < e → bitAt B' i = bitAt B i) : At W' B' e' a k ws := by
 have ht := h.top
 exact ⟨by rw [hb a (by omega)]; exact h.bit, by omega, by rw [hw a (by omega)]; exact h.head, fun i hi => by rw [hw _ (by omega)]; exact h.word i hi, h.small⟩
structure Grown3 (W0 B0 : List Nat) (e n k : Nat) (W B : List Nat) : Prop where
 hi : HI W B (e + n + 1)
 at_ : At W B (e + n + 1) e k (List.replicate n 0)
 old : ∀ i, i < e → W[i]? = W0[i]?
 bits : ∀ i, i < e → bitAt B i = bitAt B0 i
 sz : W.length = W0.length
 szB : B.length = B0.length
theorem grown3 {W B : List Nat} {e n k : Nat} (hi : HI W B e) (hk : k < 256) (hn : n + e < W.length) : Grown3 W B e n k (setAll (W.set e (n * 256 + k)) (e + 1) (List.replicate n 0)) (setBit B e) := by
 have h1 := hi.alloc (n := n) (k := k) hk hn
 have hbl := hi.bl
 have hbit : e / 64 < B.length := by omega
 have hb : ∀ j, bitAt (setBit B e) j = (bitAt B j || decide (j = e)) := zbn hbit
 have hbe : bitAt (setBit B e) e = true := by rw [hb]; simp
 have hlen : (setAll (W.set e (n * 256 + k)) (e + 1) (List.replicate n 0)).length = W.length := by rw [zoj, List.length_set]
 refine ⟨h1, ⟨hbe, by simp; omega, ?_, fun i hi => ?_, hk⟩, fun i hi => ?_, fun i hi => ?_, hlen, by simp [setBit]⟩
 ·rw [zoi, if_neg (by omega), List.getElem?_set_self (by omega), List.length_replicate]
 ·rw [List.length_replicate] at hi
  rw [zoh _ _ _ _ (by simp; omega), if_pos (by simp; omega)]
  congr 1
  omega
 ·rw [zoi, if_neg (by omega), List.getElem?_set_ne (by omega)]
 ·rw [hb]
  have : i ≠ e := by omega
  simp [this]
def toW (n : Int) : Nat := (IntKind.wrap .u64 n).toNat
theorem toW_lt (n : Int) : toW n < 18446744073709551616 := by
 unfold toW IntKind.wrap
 simp [IntKind.bits, IntKind.signed]
 omega
theorem zp2 (n : Int) : IntKind.wrap .u64 n = (toW n : Int) := by
 unfold toW IntKind.wrap
 simp [IntKind.bits, IntKind.signed]
 omega
theorem zp1 {n : Int} (h1 : -9223372036854775808 ≤ n) (h2 : n ≤ 9223372036854775807) : IntKind.wrap .i64 (toW n : Int) = n := by
 rw [← zp2]
 unfold IntKind.wrap
 simp [IntKind.bits, IntKind.signed]
 omega
def Val.ok3 (v : Val) : Prop := 0 ≤ v.k ∧ v.k ≤ 255 ∧ -9223372036854775808 ≤ v.n ∧ v.n ≤ 9223372036854775807
structure ItemsAt (W B : List Nat) (e p room : Nat) (vs : List Val) : Prop where
 fit : vs.length ≤ room
 vals : ∃ ws, At W B e p 8 ws ∧ ws.length = 2 * room ∧ (∀ (i : Nat) v, vs[i]? = some v → ws[2 * i]? = some v.k.toNat ∧ ws[2 * i + 1]? = some (toW v.n)) ∧ ∀ j, 2 * vs.length ≤ j → j < 2 * room → ws[j]? = some 0
 ok : ∀ v ∈ vs, v.ok3
theorem ItemsAt.more {W B : List Nat} {e p room : Nat} {vs : List Val} (h : ItemsAt W B e p room vs) {W' B' : List Nat} {e' : Nat} (he : e ≤ e') (hw : ∀ i, i < e → W'[i]? = W[i]?) (hb : ∀ i, i < e → bitAt B' i = bitAt B i) : ItemsAt W' B' e' p room vs := by
 obtain ⟨ws, h1, h2, h3⟩ := h.vals
 exact ⟨h.fit, ⟨ws, h1.more he hw hb, h2, h3⟩, h.ok⟩
theorem ItemsAt.other {W B : List Nat} {e p room a k i v : Nat} {ws : List Nat} {vs : List Val} (h : ItemsAt W B e p room vs) (hi : HI W B e) (g : At W B e a k ws) (hil : i < ws.length) (hap : a ≠ p) : ItemsAt (W.set (a + 1 + i) v) B e p room vs := by
 obtain ⟨us, h1, h2, h3⟩ := h.vals
 exact ⟨h.fit, ⟨us, At.other hi g hil h1 hap, h2, h3⟩, h.ok⟩
theorem ItemsAt.hold {W B : List Nat} {e p room j : Nat} {vs us : List Val} {v : Val} (h : ItemsAt W B e p room vs) (he : e ≤ W.length) (hv : v.ok3) (hj : j < room) (hus : (j < vs.length ∧ us = vs.set j v) ∨ (j = vs.length ∧ us = vs ++ [v])) :
  ItemsAt ((W.set (p + 1 + 2 * j) v.k.toNat).set (p + 1 + (2 * j + 1)) (toW v.n)) B e p room us := by
 obtain ⟨ws, h1, h2, h3, h0⟩ := h.vals
 have hf := h.fit
 have g1 := h1.write (i := 2 * j) (v := v.k.toNat) (by omega) he
 have g2 := g1.write (i := 2 * j + 1) (v := toW v.n) (by rw [List.length_set]; omega) (by rw [List.length_set]; exact he)
 refine ⟨?_, ⟨_, g2, by rw [List.length_set, List.length_set]; exact h2, fun i x hx => ?_, fun i hi1 hi2 => ?_⟩, fun x hx => ?_⟩
 ·rcases hus with ⟨_, rfl⟩ | ⟨_, rfl⟩
  ·rw [List.length_set]; exact hf
  ·simp; omega
 ·by_cases hij : i = j
  ·subst hij
   have : x = v := by
    rcases hus with ⟨h4, rfl⟩ | ⟨h4, rfl⟩
    ·rw [List.getElem?_set_self h4] at hx; exact (Option.some.inj hx).symm
    ·rw [h4, List.getElem?_append_right (Nat.le_refl _), Nat.sub_self] at hx; exact (Option.some.inj hx).symm
   subst this
   rw [List.getElem?_set_ne (by omega), List.getElem?_set_self (by omega), List.getElem?_set_self (by rw [List.length_set]; omega)]
   exact ⟨rfl, rfl⟩
  ·have hx' : vs[i]? = some x := by
    rcases hus with ⟨h4, rfl⟩ | ⟨h4, rfl⟩
    ·rwa [List.getElem?_set_ne (Ne.symm hij)] at hx
    ·rw [List.getElem?_append] at hx
     split at hx
     ·exact hx
     ·rename_i h5
      have : i - vs.length ≠ 0 := by omega
      cases hq : i - vs.length with
      | zero => exact absurd hq this
      | succ q => rw [hq] at hx; simp at hx
   obtain ⟨a1, a2⟩ := h3 i x hx'
   rw [List.getElem?_set_ne (by omega), List.getElem?_set_ne (by omega), List.getElem?_set_ne (by omega), List.getElem?_set_ne (by omega)]
   exact ⟨a1, a2⟩
 ·have hlu : vs.length ≤ us.length ∧ j < us.length := by
   rcases hus with ⟨h4, rfl⟩ | ⟨h4, rfl⟩
   ·rw [List.length_set]; exact ⟨Nat.le_refl _, h4⟩
   ·rw [List.length_append]; simp only [List.length_cons, List.length_nil]; omega
  obtain ⟨hl1, hl2⟩ := hlu
  rw [List.getElem?_set_ne (by omega), List.getElem?_set_ne (by omega)]
  exact h0 i (by omega) hi2
 ·rcases hus with ⟨_, rfl⟩ | ⟨_, rfl⟩
  ·rcases List.mem_or_eq_of_mem_set hx with h4 | rfl
   ·exact h.ok x h4
   ·exact hv
  ·rcases List.mem_append.1 hx with h4 | h4
   ·exact h.ok x h4
   ·rw [List.mem_singleton.1 h4]; exact hv
theorem ItemsAt.new {W B : List Nat} {e n room : Nat} {W0 B0 : List Nat} (h : Grown3 W0 B0 e n 8 W B) (hn : n = 2 * room) : ItemsAt W B (e + n + 1) e room [] :=
 ⟨Nat.zero_le _, ⟨_, h.at_, by rw [List.length_replicate, hn], fun i v hv => (by simp at hv), fun j _ hj => by rw [List.getElem?_replicate, if_pos (by omega)]⟩, fun v hv => by cases hv⟩
end Go.EX


set_option linter.unusedVariables false
set_option linter.unusedSimpArgs false
namespace Go.EX
structure RowCode (code : Nat → Option XFun) : Prop extends TextCode code where
 c274 : code 274 = some x274
 c275 : code 275 = some x275
 c278 : code 278 = some x278
 c279 : code 279 = some x279
 c280 : code 280 = some x280
 c283 : code 283 = some x283
 c284 : code 284 = some x284
 c593 : code 593 = some x593
 c597 : code 597 = some x597
 c598 : code 598 = some x598
 c602 : code 602 = some x602
 c606 : code 606 = some x606
 c607 : code 607 = some x607
 c609 : code 609 = some x609
 c612 : code 612 = some x612
 c617 : code 617 = some x617
 c749 : code 749 = some x749
 c759 : code 759 = some x759
abbrev valA (v : Val) : AV := valV v.k v.n
section
variable {code : Nat → Option XFun} {ext : Calls'}
theorem zbe (c : TextCode code) {W B : List Nat} {e a k i v : Nat} {ws : List Nat} (hi : HI W B e) (h : At W B e a k ws) (hv : ws[i]? = some v) (kk : Int) :
  callW code ext 286 [objV a kk, int64 i] (hMem W B e) = some (uint64 v, hMem W B e) := by
 have hil := (List.getElem?_eq_some_iff.1 hv).1
 exact zre c (h.obj hi) hil (by rw [h.word i hil]; exact hv) kk
theorem zbd (c : TextCode code) {W B : List Nat} {e a k : Nat} {ws : List Nat} (hi : HI W B e) (h : At W B e a k ws) (kk : Int) :
  callW code ext 281 [objV a kk] (hMem W B e) = some (int64 ws.length, hMem W B e) := zki c (h.obj hi) kk
theorem zbb (c : TextCode code) {W B : List Nat} {e a k : Nat} {ws : List Nat} (hi : HI W B e) (h : At W B e a k ws) (hk : k < 8) :
  callW code ext 613 [.optr 0 0, valV k a] (hMem W B e) = some (.tup [objV a k, avb true], hMem W B e) := by
 have := zia (ext := ext) c (h.obj hi) h.head (by rw [h.kind]; exact hk)
 rw [h.kind] at this
 exact this
theorem zbc (c : TextCode code) {W B : List Nat} {e a : Nat} {ws : List Nat} (hi : HI W B e) (h : At W B e a 8 ws) :
  callW code ext 614 [.optr 0 0, int64 a] (hMem W B e) = some (.tup [objV a 8, avb true], hMem W B e) := by
 have h1 := zh0 (ext := ext) c (h.obj hi) h.head
 rw [h.kind] at h1
 rw [zbw code ext c.c614]
 simp -implicitDefEqProofs [x614, h1]
theorem zqy (c : RowCode code) {W B : List Nat} {e p room i : Nat} {vs : List Val} {v : Val} (hi : HI W B e) (h : ItemsAt W B e p room vs) (hv : vs[i]? = some v) (j : Nat) (hj : j = 2 * i) :
  callW code ext 283 [objV p 8, int64 j] (hMem W B e) = some (valA v, hMem W B e) := by
 obtain ⟨ws, h1, h2, h3, _⟩ := h.vals
 obtain ⟨g1, g2⟩ := h3 i v hv
 rw [← hj] at g1 g2
 have hok := h.ok v (List.mem_of_getElem? hv)
 obtain ⟨o1, o2, o3, o4⟩ := hok
 have f1 := zbe (ext := ext) c.toTextCode hi h1 g1 8
 have f2 := zbe (ext := ext) c.toTextCode hi h1 g2 8
 have hbd : j + 1 < 2 * room := by rw [← h2]; exact (List.getElem?_eq_some_iff.1 g2).1
 have htop := h1.top
 have ht2 := hi.top
 have ht3 := hi.bd
 obtain ⟨q, hq⟩ : ∃ q : Nat, v.k = q := ⟨v.k.toNat, by omega⟩
 have hqn : v.k.toNat = q := by omega
 have e1 : ¬ (255 : Int) < q := by omega
 have e1' : ¬ 255 < q := by omega
 have e2 : IntKind.wrap .u8 (q : Int) = q := wrapU8 (by omega) (by omega)
 have e3 := zp1 o3 o4
 obtain ⟨j1, hj1⟩ : ∃ j1, j1 = j + 1 := ⟨_, rfl⟩
 have e4 : IntKind.wrap .i64 ((j : Int) + 1) = (j1 : Int) := by rw [wrapI64 (by omega) (by omega)]; omega
 rw [hqn] at f1
 rw [← hj1] at f2
 rw [zbw code ext c.c283]
 show _ = some (valV v.k v.n, _)
 rw [hq]
 simp -implicitDefEqProofs [x283, f1, f2, e1, e1', e2, e3, e4]
theorem zgw (c : RowCode code) {W B : List Nat} {e p i : Nat} {ws : List Nat} {v : Val} (hi : HI W B e) (h : At W B e p 8 ws) (hil : i + 1 < ws.length) (hv : v.ok3) :
  callW code ext 275 [objV p 8, int64 i, valA v] (hMem W B e) = some (.tup [], hMem ((W.set (p + 1 + i) v.k.toNat).set (p + 1 + (i + 1)) (toW v.n)) B e) := by
 obtain ⟨o1, o2, o3, o4⟩ := hv
 have htop := h.top
 have ht2 := hi.top
 have ht3 := hi.bd
 have f1 := zrj (ext := ext) c.small c.c178 (h.obj hi) (k := i) (v := v.k.toNat) (by omega)
 have hi2 := hi.write h.bit (k := i) (v := v.k.toNat) (by rw [h.hd]; omega) (by omega)
 have h2 := h.write (i := i) (v := v.k.toNat) (by omega) (by omega)
 have f2 := zrj (ext := ext) c.small c.c178 (h2.obj hi2) (k := i + 1) (v := toW v.n) (by rw [List.length_set]; exact hil)
 have l1 : (W.set (p + 1 + i) v.k.toNat).length = W.length := List.length_set
 have l2 : ((W.set (p + 1 + i) v.k.toNat).set (p + 1 + (i + 1)) (toW v.n)).length = W.length := by rw [List.length_set]; exact l1
 obtain ⟨j1, hj1⟩ : ∃ j1, j1 = i + 1 := ⟨_, rfl⟩
 have e4 : IntKind.wrap .i64 ((i : Int) + 1) = (j1 : Int) := by rw [wrapI64 (by omega) (by omega)]; omega
 obtain ⟨q, hq⟩ : ∃ q : Nat, v.k = q := ⟨v.k.toNat, by omega⟩
 have hqn : v.k.toNat = q := by omega
 have e5 : IntKind.wrap .u64 (q : Int) = (q : Int) := wrapU64 (by omega) (by omega)
 have e6 := zp2 v.n
 rw [hqn] at f1 f2 l1 l2 ⊢
 rw [← hj1] at f2 l2 ⊢
 show callW code ext 275 [objV p 8, int64 i, valV v.k v.n] (hMem W B e) = _
 rw [hq]
 clear h2 hi2 hqn
 generalize (W.set (p + 1 + i) q).set (p + 1 + j1) (toW v.n) = W2 at *
 generalize W.set (p + 1 + i) q = W1 at *
 simp only [hMem, l1, l2] at f1 f2
 rw [zbw code ext c.c275]
 simp -implicitDefEqProofs [x275, f1, f2, e4, e5, e6, l1, l2]
end
end Go.EX


set_option linter.unusedVariables false
set_option linter.unusedSimpArgs false
namespace Go.EX
def gV (id : Nat) (l : List Val) : AV := if l = [] then nilS else .osl id 0 2 l.length none
def gM (l : List Val) : Mem := if l = [] then [] else [.flat (tVal.row l) false]
theorem zq4 (l : List Val) : (tVal.row l).length = l.length * 2 := znd tVal l
section
variable {code : Nat → Option XFun} {ext : Calls'}
abbrev vsEnv (out : AV) (n i : Nat) : Env := [(1, int64 0), (3, .optr 3 0), (6, out), (8, int64 n), (9, int64 i)]
abbrev vsMem (W B : List Nat) (e p : Nat) : Mem := [.rich [.osl 1 0 1 W.length (some W.length), .osl 2 0 1 B.length (some B.length), int64 e], .flat (urow W) false, .flat (urow B) false, .rich [.optr 0 0, int64 p, uint8 8]]
theorem zqz (c : RowCode code) {W B : List Nat} {e p room : Nat} {vs : List Val} (hi : HI W B e) (h : ItemsAt W B e p room vs) : ∀ (m : Nat) (st : St), (∃ i, m + i = vs.length ∧ st.tidy [1, 3, 6, 8, 9] = ⟨3, vsEnv (gV 4 (vs.take i)) vs.length i, vsMem W B e p ++ gM (vs.take i)⟩) →
  ∃ x s', den code ext (.loop [1, 3, 6, 8, 9] x284L1) st = some (x, s') ∧ x ≠ .normal ∧ (x = .exit 0 ∧ s' = ⟨3, vsEnv (gV 4 vs) vs.length vs.length ++ [(10, avb false)], vsMem W B e p ++ gM vs⟩) := by
 have hfit := h.fit
 have hroom : 2 * room ≤ 1048576 := by
  obtain ⟨ws, h1, h2, _⟩ := h.vals
  have := h1.top; have := hi.top; have := hi.bd; omega
 refine ziu _ _ ?_
 rintro m st ⟨i, hm, hst⟩
 rw [hst]
 by_cases hil : i < vs.length
 ·obtain ⟨v, hv⟩ : ∃ v, vs[i]? = some v := ⟨_, List.getElem?_eq_getElem hil⟩
  obtain ⟨j, hj⟩ : ∃ j, j = 2 * i := ⟨_, rfl⟩
  have h1 := zqy (ext := ext) c hi h hv j hj
  have htake : vs.take (i + 1) = vs.take i ++ [v] := by rw [List.take_add_one, hv]; rfl
  have hlen : (vs.take i).length = i := by rw [List.length_take]; omega
  have hvl := zq4 (vs.take i)
  rw [hlen] at hvl
  have e1 : (i : Int) < vs.length := by omega
  have e2 : IntKind.wrap .i64 (2 * (i : Int)) = (j : Int) := by rw [wrapI64 (by omega) (by omega)]; omega
  have e2' : IntKind.wrap .i64 (0 + (j : Int)) = (j : Int) := by rw [wrapI64 (by omega) (by omega)]; omega
  have e2'' : IntKind.wrap .i64 (j : Int) = (j : Int) := wrapI64 (by omega) (by omega)
  obtain ⟨i1, hi1⟩ : ∃ i1, i1 = i + 1 := ⟨_, rfl⟩
  have e3 : IntKind.wrap .i64 ((i : Int) + 1) = (i1 : Int) := by rw [wrapI64 (by omega) (by omega)]; omega
  have hne : vs.take i1 ≠ [] := by rw [hi1, htake]; simp
  have hl1 : (vs.take i1).length = i1 := by rw [List.length_take]; omega
  have hsn : tVal.row (vs.take i) ++ tVal.enc v = tVal.row (vs.take i1) := by rw [zne, hi1, htake]
  by_cases h0 : i = 0
  ·subst h0
   have hr1 : tVal.enc v = tVal.row (vs.take i1) := by rw [← hsn]; rfl
   refine ⟨.normal, ⟨3, vsEnv (.osl 5 0 2 1 none) vs.length i1, vsMem W B e p ++ [.flat (tVal.enc v) false, .flat (tVal.row (vs.take i1)) false]⟩, ?_, .inl ⟨rfl, m - 1, by omega, i1, by omega, ?_⟩⟩
   ·have hz : gV 4 (vs.take 0) = nilS := rfl
    have hz2 : gM (vs.take 0) = [] := rfl
    have hj0 : j = 0 := by omega
    subst hj0
    have hi11 : i1 = 1 := by omega
    subst hi11
    simp only [Int.natCast_zero] at h1 e1 e2 e3
    rw [hz, hz2, ← hr1]
    simp -implicitDefEqProofs [x284L1, h1, e1, e2, e3, hil, exAppendX, exAppend, elems, tVal, show IntKind.wrap .i64 0 = 0 from rfl, show IntKind.wrap .i64 1 = 1 from rfl]
   ·have hg : gV 4 (vs.take i1) = .osl 4 0 2 1 none := by unfold gV; rw [if_neg hne, hl1, hi1]
    have hg2 : gM (vs.take i1) = [.flat (tVal.row (vs.take i1)) false] := by unfold gM; rw [if_neg hne]
    rw [hg, hg2]
    simp -implicitDefEqProofs []
  ·have hne0 : vs.take i ≠ [] := fun hh => by rw [hh] at hlen; simp at hlen; omega
   have hg0 : gV 4 (vs.take i) = .osl 4 0 2 i none := by unfold gV; rw [if_neg hne0, hlen]
   have hg02 : gM (vs.take i) = [.flat (tVal.row (vs.take i)) false] := by unfold gM; rw [if_neg hne0]
   rw [hg0, hg02]
   have hcut : cut (tVal.row (vs.take i)) 0 (i * 2) = some (tVal.row (vs.take i)) := zcq _ hvl
   refine ⟨.normal, ⟨3, vsEnv (.osl 4 0 2 i1 none) vs.length i1, vsMem W B e p ++ [.flat (tVal.row (vs.take i1)) false, .flat (tVal.enc v) false]⟩, ?_, .inl ⟨rfl, m - 1, by omega, i1, by omega, ?_⟩⟩
   ·have e5 : i1 * 16 ≤ 140737488355328 := by omega
    rw [← hsn]
    generalize tVal.row (vs.take i) = R at *
    have e6 : i + 1 = i1 := hi1.symm
    simp -implicitDefEqProofs [x284L1, h1, e1, e2, e2', e2'', e3, hil, exAppendX, exAppend, elems, hcut, e5, e6, tVal]
   ·have hg : gV 4 (vs.take i1) = .osl 4 0 2 i1 none := by unfold gV; rw [if_neg hne, hl1]
    have hg2 : gM (vs.take i1) = [.flat (tVal.row (vs.take i1)) false] := by unfold gM; rw [if_neg hne]
    rw [hg, hg2]
    generalize tVal.row (vs.take i1) = R1
    simp -implicitDefEqProofs []
 ·have hie : i = vs.length := by omega
  subst hie
  have e1 : ¬ (vs.length : Int) < vs.length := by omega
  refine ⟨.exit 0, ⟨3, vsEnv (gV 4 vs) vs.length vs.length ++ [(10, avb false)], vsMem W B e p ++ gM vs⟩, ?_, .inr ⟨by simp, rfl, rfl⟩⟩
  rw [List.take_length]
  simp -implicitDefEqProofs [x284L1, e1]
theorem zq1 (c : RowCode code) {W B : List Nat} {e p room : Nat} {vs : List Val} (hi : HI W B e) (h : ItemsAt W B e p room vs) :
  callW code ext 284 [objV p 8, int64 0, int64 vs.length] (hMem W B e) = some (gV 3 vs, hMem W B e ++ gM vs) := by
 obtain ⟨x, s', h1, _, rfl, rfl⟩ := zqz (code := code) (ext := ext) c hi h vs.length ⟨3, [(1, int64 0), (3, .optr 3 0), (6, nilS), (8, int64 vs.length), (9, int64 0)], vsMem W B e p⟩ ⟨0, rfl, by rw [List.take_zero]; simp -implicitDefEqProofs [gV, gM]⟩
 rw [zbw code ext c.c284]
 by_cases hn : vs = []
 ·subst hn
  have g1 : gV 4 [] = nilS := rfl
  have g2 : gV 3 [] = nilS := rfl
  have g3 : gM [] = [] := rfl
  simp only [g1, g2, g3, vsEnv, List.length_nil, Int.natCast_zero, List.append_nil, List.cons_append, List.nil_append] at h1 ⊢
  simp -implicitDefEqProofs [x284, h1]
 ·have g1 : gV 4 vs = .osl 4 0 2 vs.length none := by unfold gV; rw [if_neg hn]
  have g2 : gV 3 vs = .osl 3 0 2 vs.length none := by unfold gV; rw [if_neg hn]
  have g3 : gM vs = [.flat (tVal.row vs) false] := by unfold gM; rw [if_neg hn]
  simp only [g1, g2, g3, vsEnv, Int.natCast_zero, List.cons_append, List.nil_append] at h1 ⊢
  generalize tVal.row vs = R at *
  simp -implicitDefEqProofs [x284, h1]
end
end Go.EX


set_option linter.unusedVariables false
set_option linter.unusedSimpArgs false
namespace Go.EX
def LM (W B : List Nat) (e m k room : Nat) (vs : List Val) : Prop :=
 (room = 0 ∧ vs = [] ∧ At W B e m k [0, 0]) ∨ (0 < room ∧ ∃ p, At W B e m k [vs.length, p + 1] ∧ ItemsAt W B e p room vs)
theorem LM.more {W B : List Nat} {e m k room : Nat} {vs : List Val} (h : LM W B e m k room vs) {W' B' : List Nat} {e' : Nat} (he : e ≤ e') (hw : ∀ i, i < e → W'[i]? = W[i]?) (hb : ∀ i, i < e → bitAt B' i = bitAt B i) : LM W' B' e' m k room vs := by
 rcases h with ⟨h1, h2, h3⟩ | ⟨h1, p, h2, h3⟩
 ·exact .inl ⟨h1, h2, h3.more he hw hb⟩
 ·exact .inr ⟨h1, p, h2.more he hw hb, h3.more he hw hb⟩
theorem LM.fit {W B : List Nat} {e m k room : Nat} {vs : List Val} (h : LM W B e m k room vs) : vs.length ≤ room := by
 rcases h with ⟨h1, h2, h3⟩ | ⟨h1, p, h2, h3⟩
 ·rw [h2]; simp
 ·exact h3.fit
theorem LM.at_ {W B : List Nat} {e m k room : Nat} {vs : List Val} (h : LM W B e m k room vs) : ∃ w, At W B e m k [vs.length, w] := by
 rcases h with ⟨h1, h2, h3⟩ | ⟨h1, p, h2, h3⟩
 ·exact ⟨0, by rw [h2]; exact h3⟩
 ·exact ⟨p + 1, h2⟩
section
variable {code : Nat → Option XFun} {ext : Calls'}
theorem zhl (c : RowCode code) {W B : List Nat} {e m k p room : Nat} {vs : List Val} (hi : HI W B e) (h : At W B e m k [vs.length, p + 1]) (g : ItemsAt W B e p room vs) (kk : Int) :
  callW code ext 276 [objV m kk] (hMem W B e) = some (.tup [objV p 8, avb true], hMem W B e) := by
 obtain ⟨ws, h1, _, _⟩ := g.vals
 have htop := h1.top; have ht2 := hi.top; have ht3 := hi.bd
 have f1 : callW code ext 286 [objV m kk, int64 1] (hMem W B e) = some (uint64 (p + 1), hMem W B e) := zbe (ext := ext) c.toTextCode hi h (i := 1) (v := p + 1) rfl kk
 have f2 := zbc (ext := ext) c.toTextCode hi h1
 obtain ⟨q, hq⟩ : ∃ q, q = p + 1 := ⟨_, rfl⟩
 have e1 : IntKind.wrap .u64 ((q : Int) - 1) = (p : Int) := by rw [wrapU64 (by omega) (by omega)]; omega
 have e2 : IntKind.wrap .i64 (p : Int) = (p : Int) := wrapI64 (by omega) (by omega)
 rw [← hq] at f1
 rw [zbw code ext c.c276]
 simp -implicitDefEqProofs [x276, f1, f2, e1, e2, exTouch]
theorem zhj (c : RowCode code) {W B : List Nat} {e m k : Nat} (hi : HI W B e) (h : At W B e m k [0, 0]) (kk : Int) :
  callW code ext 276 [objV m kk] (hMem W B e) = some (.tup [objV (-1) 8, avb false], hMem W B e) := by
 have f1 : callW code ext 286 [objV m kk, int64 1] (hMem W B e) = some (uint64 0, hMem W B e) := zbe (ext := ext) c.toTextCode hi h (i := 1) (v := 0) rfl kk
 have f3 := zhz (ext := ext) c.toTextCode (W := W) (B := B) (e := e) (i := -1) hi.pos (by have := hi.top; have := hi.bd; omega) (fun h => by omega)
 have f2 : callW code ext 614 [.optr 0 0, int64 (-1)] (hMem W B e) = some (.tup [objV (-1) 8, avb false], hMem W B e) := by
  rw [zbw code ext c.c614]
  simp -implicitDefEqProofs [x614, f3]
 have e1 : IntKind.wrap .i64 (IntKind.wrap .u64 (-1)) = -1 := by decide
 rw [zbw code ext c.c276]
 simp -implicitDefEqProofs [x276, f1, f2, e1, exTouch]
theorem zm8 (c : RowCode code) {W B : List Nat} {e m k room : Nat} {vs : List Val} (hi : HI W B e) (h : LM W B e m k room vs) (kk : Int) :
  callW code ext 280 [objV m kk] (hMem W B e) = some (int64 room, hMem W B e) := by
 rcases h with ⟨h1, h2, h3⟩ | ⟨h1, p, h2, h3⟩
 ·subst h1
  have f1 := zhj (ext := ext) c hi h3 kk
  rw [zbw code ext c.c280]
  simp -implicitDefEqProofs [x280, f1]
 ·have f1 := zhl (ext := ext) c hi h2 h3 kk
  obtain ⟨ws, g1, g2, _⟩ := h3.vals
  have htop := g1.top; have ht2 := hi.top; have ht3 := hi.bd
  have f2 := zbd (ext := ext) c.toTextCode hi g1 8
  have f3 : callW code ext 286 [objV m kk, int64 1] (hMem W B e) = some (uint64 (p + 1), hMem W B e) := zbe (ext := ext) c.toTextCode hi h2 (i := 1) (v := p + 1) rfl kk
  obtain ⟨q, hq⟩ : ∃ q, q = p + 1 := ⟨_, rfl⟩
  rw [← hq] at f3
  have e1 : ¬ (q : Int) = 0 := by omega
  have e1' : ¬ q = 0 := by omega
  have e2 : IntKind.wrap .i64 ((ws.length : Int).tdiv 2) = (room : Int) := by
   rw [Int.tdiv_eq_ediv_of_nonneg (by omega), wrapI64 (by omega) (by omega)]; omega
  have e2' : IntKind.wrap .i64 ((ws.length : Int) / 2) = (room : Int) := by rw [wrapI64 (by omega) (by omega)]; omega
  rw [zbw code ext c.c280]
  simp -implicitDefEqProofs [-intBin, b_neq, show ∀ x : Int, intBin .quo .i64 x 2 = some (.int .i64 (IntKind.wrap .i64 (x.tdiv 2))) from fun x => rfl, x280, f1, f2, f3, e1, e1', e2, e2']
theorem zkq (c : RowCode code) {W B : List Nat} {e m k room : Nat} {vs : List Val} (hi : HI W B e) (h : LM W B e m k room vs) (kk : Int) :
  callW code ext 278 [objV m kk] (hMem W B e) = some (gV 3 vs, hMem W B e ++ gM vs) := by
 have htop := hi.top; have ht3 := hi.bd
 have e0 : IntKind.wrap .i64 (0 : Int) = 0 := rfl
 rcases h with ⟨h1, h2, h3⟩ | ⟨h1, p, h2, h3⟩
 ·subst h1 h2
  have f1 := zhj (ext := ext) c hi h3 kk
  have f2 : callW code ext 286 [objV m kk, int64 0] (hMem W B e) = some (uint64 0, hMem W B e) := zbe (ext := ext) c.toTextCode hi h3 (i := 0) (v := 0) rfl kk
  have f3 : callW code ext 284 [objV (-1) 8, int64 0, int64 0] (hMem W B e) = some (nilS, hMem W B e) := by
   have hl : den code ext (.loop [1, 3, 6, 8, 9] x284L1) ⟨3, [(1, int64 0), (3, .optr 3 0), (6, nilS), (8, int64 0), (9, int64 0)], hMem W B e ++ [.rich [.optr 0 0, int64 (-1), uint8 8]]⟩ =
     some (.exit 0, ⟨3, [(1, int64 0), (3, .optr 3 0), (6, nilS), (8, int64 0), (9, int64 0), (10, avb false)], hMem W B e ++ [.rich [.optr 0 0, int64 (-1), uint8 8]]⟩) := by
    rw [zc3]
    simp -implicitDefEqProofs [x284L1]
   simp only [hMem, List.cons_append, List.nil_append] at hl
   rw [zbw code ext c.c284]
   simp -implicitDefEqProofs [x284, hl]
  rw [zbw code ext c.c278]
  simp -implicitDefEqProofs [x278, f1, f2, f3, e0, gV, gM]
 ·have f1 := zhl (ext := ext) c hi h2 h3 kk
  have f2 : callW code ext 286 [objV m kk, int64 0] (hMem W B e) = some (uint64 vs.length, hMem W B e) := zbe (ext := ext) c.toTextCode hi h2 (i := 0) (v := vs.length) rfl kk
  have f3 := zq1 (ext := ext) c hi h3
  have hroom : vs.length ≤ 1048576 := by
   obtain ⟨ws, g1, g2, _⟩ := h3.vals
   have := g1.top; have := h3.fit; omega
  have e1 : IntKind.wrap .i64 (vs.length : Int) = (vs.length : Int) := wrapI64 (by omega) (by omega)
  rw [zbw code ext c.c278]
  by_cases hn : vs = []
  ·subst hn
   have g2 : gV 3 [] = nilS := rfl
   have g3 : gM [] = [] := rfl
   simp only [g2, g3, List.length_nil, Int.natCast_zero, List.append_nil] at f2 f3 e1 ⊢
   simp -implicitDefEqProofs [x278, f1, f2, f3, e0]
  ·have g2 : gV 3 vs = .osl 3 0 2 vs.length none := by unfold gV; rw [if_neg hn]
   have g3 : gM vs = [.flat (tVal.row vs) false] := by unfold gM; rw [if_neg hn]
   simp only [g2, g3] at f3 ⊢
   generalize tVal.row vs = R at *
   simp -implicitDefEqProofs [x278, f1, f2, f3, e1, exLook]
end
end Go.EX


set_option linter.unusedVariables false
set_option linter.unusedSimpArgs false
namespace Go.EX
def kRow (ks : List Int) : List IV := ks.map fun k => .val (.int .u8 k)
theorem zhq {ks : List Int} {i : Nat} {k : Int} (h : ks[i]? = some k) : (kRow ks)[i]? = some (.val (.int .u8 k)) := by simp [kRow, h]
section
variable {code : Nat → Option XFun} {ext : Calls'}
theorem zhf (k : Int) (ks : List Int) (n : Nat) (hn : n = ks.length) (hn2 : n ≤ 1000) : ∀ (m : Nat) (st : St), (∃ i, m + i = n ∧ (∀ j, j < i → ks[j]? ≠ some k) ∧ st.tidy [0, 1, 7, 8] = ⟨1, [(0, .osl 0 0 1 n (some n)), (1, uint8 k), (7, int64 n), (8, int64 i)], [.flat (kRow ks) false]⟩) →
  ∃ x s', den code ext (.loop [0, 1, 7, 8] x762L1) st = some (x, s') ∧ x ≠ .normal ∧ ((x = .ret ∧ k ∈ ks ∧ ∃ i : Nat, s' = ⟨1, [(4, int64 i)], [.flat (kRow ks) false]⟩) ∨ (x = .exit 0 ∧ k ∉ ks ∧ s' = ⟨1, [(0, .osl 0 0 1 n (some n)), (1, uint8 k), (7, int64 n), (8, int64 n), (9, avb false)], [.flat (kRow ks) false]⟩)) := by
 refine ziu _ _ ?_
 rintro m st ⟨i, hm, hno, hst⟩
 rw [hst]
 by_cases hi : i < n
 ·obtain ⟨q, hq⟩ : ∃ q, ks[i]? = some q := ⟨_, List.getElem?_eq_getElem (by omega)⟩
  have hr := zhq hq
  have e1 : (i : Int) < n := by omega
  obtain ⟨i1, hi1⟩ : ∃ i1, i1 = i + 1 := ⟨_, rfl⟩
  have e3 : IntKind.wrap .i64 ((i : Int) + 1) = (i1 : Int) := by rw [wrapI64 (by omega) (by omega)]; omega
  by_cases hk : k = q
  ·subst hk
   refine ⟨.ret, ⟨1, [(4, int64 i)], [.flat (kRow ks) false]⟩, ?_, .inr ⟨by simp, .inl ⟨rfl, List.mem_of_getElem? hq, i, rfl⟩⟩⟩
   simp -implicitDefEqProofs [x762L1, e1, hi, hr]
  ·refine ⟨.normal, ⟨1, [(0, .osl 0 0 1 n (some n)), (1, uint8 k), (7, int64 n), (8, int64 i1)], [.flat (kRow ks) false]⟩, ?_, .inl ⟨rfl, m - 1, by omega, i1, by omega, fun j hj => ?_, by simp -implicitDefEqProofs []⟩⟩
   ·simp -implicitDefEqProofs [x762L1, e1, hi, hr, hk, e3]
   ·by_cases hji : j = i
    ·subst hji; rw [hq]; exact fun h => hk (Option.some.inj h).symm
    ·exact hno j (by omega)
 ·have hie : i = n := by omega
  subst hie
  refine ⟨.exit 0, ⟨1, [(0, .osl 0 0 1 i (some i)), (1, uint8 k), (7, int64 i), (8, int64 i), (9, avb false)], [.flat (kRow ks) false]⟩, ?_, .inr ⟨by simp, .inr ⟨rfl, fun h => ?_, rfl⟩⟩⟩
  ·simp -implicitDefEqProofs [x762L1]
  ·obtain ⟨j, hj⟩ := List.getElem?_of_mem h
   have := (List.getElem?_eq_some_iff.1 hj).1
   exact hno j (by omega) hj
theorem zcj (c : TextCode code) (k : Int) (ks : List Int) (n : Nat) (hn : n = ks.length) (hn2 : n ≤ 1000) : callW code ext 752 [.osl 0 0 1 n (some n), uint8 k] [.flat (kRow ks) false] = some (avb (decide (k ∈ ks)), [.flat (kRow ks) false]) := by
 obtain ⟨x, s', h1, _, hq⟩ := zhf (code := code) (ext := ext) k ks n hn hn2 n ⟨1, [(0, .osl 0 0 1 n (some n)), (1, uint8 k), (7, int64 n), (8, int64 0)], [.flat (kRow ks) false]⟩ ⟨0, rfl, fun j hj => absurd hj (Nat.not_lt_zero j), by simp -implicitDefEqProofs []⟩
 rcases hq with ⟨rfl, hmem, i, rfl⟩ | ⟨rfl, hno, rfl⟩
 ·have h2 : callW code ext 762 [.osl 0 0 1 n (some n), uint8 k] [.flat (kRow ks) false] = some (int64 i, [.flat (kRow ks) false]) := by
   rw [zbw code ext c.c762]
   simp -implicitDefEqProofs [x762, h1]
  rw [zbw code ext c.c752]
  simp -implicitDefEqProofs [x752, h2, hmem]
 ·have h2 : callW code ext 762 [.osl 0 0 1 n (some n), uint8 k] [.flat (kRow ks) false] = some (int64 (-1), [.flat (kRow ks) false]) := by
   rw [zbw code ext c.c762]
   simp -implicitDefEqProofs [x762, h1]
  rw [zbw code ext c.c752]
  simp -implicitDefEqProofs [x752, h2, hno]
end
end Go.EX


set_option linter.unusedVariables false
set_option linter.unusedSimpArgs false
namespace Go.EX
structure Key where
 k : Int
 n : Int
 s : List UInt8
 deriving DecidableEq
def KeyAt (W B : List Nat) (e : Nat) (v : Val) (q : Key) : Prop :=
 (v.k = 3 ∧ ∃ (a : Nat) (s : List UInt8), v.n = a ∧ TextAt W B e a s ∧ s.length ≤ 4096 ∧ q = ⟨3, 0, 61 :: s⟩) ∨ (v.k ≠ 0 ∧ v.k ≠ 3 ∧ q = ⟨v.k, v.n, []⟩)
theorem KeyAt.more {W B : List Nat} {e : Nat} {v : Val} {q : Key} (h : KeyAt W B e v q) {W' B' : List Nat} {e' : Nat} (he : e ≤ e') (hw : ∀ i, i < e → W'[i]? = W[i]?) (hb : ∀ i, i < e → bitAt B' i = bitAt B i) : KeyAt W' B' e' v q := by
 rcases h with ⟨h1, a, s, h2, h3, h4, h5⟩ | h
 ·exact .inl ⟨h1, a, s, h2, h3.more he hw hb, h4, h5⟩
 ·exact .inr h
theorem KeyAt.other {W B : List Nat} {e a k i x : Nat} {ws : List Nat} {v : Val} {q : Key} (h : KeyAt W B e v q) (hi : HI W B e) (g : At W B e a k ws) (hil : i < ws.length) (hk : k ≠ 3) : KeyAt (W.set (a + 1 + i) x) B e v q := by
 rcases h with ⟨h1, b, s, h2, h3, h4, h5⟩ | h
 ·have hab : a ≠ b := by
   rintro rfl
   have h6 := g.head
   rw [h3.head] at h6
   have h7 := g.small
   have := Option.some.inj h6
   omega
  exact .inl ⟨h1, b, s, h2, (At.other hi g hil h3.at hab).text, h4, h5⟩
 ·exact .inr h
section
variable {code : Nat → Option XFun} {ext : Calls'}
end
end Go.EX


set_option linter.unusedVariables false
set_option linter.unusedSimpArgs false
namespace Go.EX
section
variable {code : Nat → Option XFun} {ext : Calls'}
def Held (W B : List Nat) (e : Nat) (v : Val) : Prop := v.k = 2 ∨ (v.k = 3 ∧ ∃ (a : Nat) (s : List UInt8), v.n = a ∧ TextAt W B e a s)
theorem zgv (c : RowCode code) {W B : List Nat} {e : Nat} {v : Val} (hi : HI W B e) (h : Held W B e v) :
  callW code ext 612 [.optr 0 0, valA v] (hMem W B e) = some (avb true, hMem W B e) := by
 rw [zbw code ext c.c612]
 show funOut x612 (den code ext x612.body ⟨3, enter 0 [.optr 0 0, valV v.k v.n], hMem W B e⟩) = _
 rcases h with h | ⟨h, a, s, h2, h3⟩
 ·rw [h]
  simp -implicitDefEqProofs [x612]
 ·rw [h, h2]
  have f1 := zib (ext := ext) c.toTextCode hi h3
  simp -implicitDefEqProofs [x612, f1]
abbrev hcMem (W B : List Nat) (e : Nat) : Mem := [.rich [.clo 612 []], .rich [.optr 2 0], .rich [.osl 3 0 1 W.length (some W.length), .osl 4 0 1 B.length (some B.length), int64 e], .flat (urow W) false, .flat (urow B) false]
abbrev allMem (W B : List Nat) (e : Nat) (row : List IV) : Mem := [.flat row false, .rich [.clo 612 []], .rich [.optr 3 0], .rich [.osl 4 0 1 W.length (some W.length), .osl 5 0 1 B.length (some B.length), int64 e], .flat (urow W) false, .flat (urow B) false]
theorem zar (c : RowCode code) {W B : List Nat} {e : Nat} {v : Val} (hi : HI W B e) (h : Held W B e v) :
  callW code ext 607 [valA v, .optr 0 0, .optr 1 0] (hcMem W B e) = some (avb false, hcMem W B e) := by
 have f1 := zgv (ext := ext) c hi h
 rw [zbw code ext c.c607]
 simp -implicitDefEqProofs [x607, f1]
theorem zas (c : RowCode code) {W B : List Nat} {e : Nat} {vs : List Val} {cap : Option Nat} (hi : HI W B e) (hl : vs.length ≤ 1000000) (h : ∀ v ∈ vs, Held W B e v) : ∀ (m : Nat) (st : St), (∃ i, m + i = vs.length ∧ st.tidy [0, 1, 7, 8] = ⟨6, [(0, .osl 0 0 2 vs.length cap), (1, .clo 607 [.optr 1 0, .optr 2 0]), (7, int64 vs.length), (8, int64 i)], allMem W B e (tVal.row vs)⟩) →
  ∃ x s', den code ext (.loop [0, 1, 7, 8] x759L1) st = some (x, s') ∧ x ≠ .normal ∧ (x = .exit 0 ∧ s' = ⟨6, [(0, .osl 0 0 2 vs.length cap), (1, .clo 607 [.optr 1 0, .optr 2 0]), (7, int64 vs.length), (8, int64 vs.length), (9, avb false)], allMem W B e (tVal.row vs)⟩) := by
 refine ziu _ _ ?_
 rintro m st ⟨i, hm, hst⟩
 rw [hst]
 by_cases hil : i < vs.length
 ·obtain ⟨v, hv⟩ : ∃ v, vs[i]? = some v := ⟨_, List.getElem?_eq_getElem hil⟩
  have f1 := zar (ext := ext) c hi (h v (List.mem_of_getElem? hv))
  have hcut : cut (tVal.row vs) (i * 2) 2 = some [.val (.int .u8 v.k), .val (.int .i64 v.n)] := zfm (t := tVal) hv
  have e1 : (i : Int) < vs.length := by omega
  obtain ⟨i1, hi1⟩ : ∃ i1, i1 = i + 1 := ⟨_, rfl⟩
  have e3 : IntKind.wrap .i64 ((i : Int) + 1) = (i1 : Int) := by rw [wrapI64 (by omega) (by omega)]; omega
  refine ⟨.normal, ⟨6, [(0, .osl 0 0 2 vs.length cap), (1, .clo 607 [.optr 1 0, .optr 2 0]), (7, int64 vs.length), (8, int64 i1)], allMem W B e (tVal.row vs)⟩, ?_, .inl ⟨rfl, m - 1, by omega, i1, by omega, ?_⟩⟩
  ·generalize tVal.row vs = R at *
   simp -implicitDefEqProofs [x759L1, e1, hil, hcut, f1, e3]
  ·generalize tVal.row vs = R at *
   simp -implicitDefEqProofs []
 ·have hie : i = vs.length := by omega
  subst hie
  refine ⟨.exit 0, ⟨6, [(0, .osl 0 0 2 vs.length cap), (1, .clo 607 [.optr 1 0, .optr 2 0]), (7, int64 vs.length), (8, int64 vs.length), (9, avb false)], allMem W B e (tVal.row vs)⟩, ?_, .inr ⟨by simp, rfl, rfl⟩⟩
  generalize tVal.row vs = R at *
  simp -implicitDefEqProofs [x759L1]
theorem zau (c : RowCode code) {W B : List Nat} {e : Nat} {vs : List Val} {cap : Option Nat} (hi : HI W B e) (hl : vs.length ≤ 1000000) (h : ∀ v ∈ vs, Held W B e v) :
  callW code ext 606 [.optr 0 0, .osl 1 0 2 vs.length cap, .clo 612 []] (kMem W B e (.flat (tVal.row vs) false)) = some (avb true, kMem W B e (.flat (tVal.row vs) false)) := by
 obtain ⟨x, s', f1, _, rfl, rfl⟩ := zas (code := code) (ext := ext) (cap := cap) c hi hl h vs.length ⟨6, [(0, .osl 0 0 2 vs.length cap), (1, .clo 607 [.optr 1 0, .optr 2 0]), (7, int64 vs.length), (8, int64 0)], allMem W B e (tVal.row vs)⟩ ⟨0, rfl, by generalize tVal.row vs = R; simp -implicitDefEqProofs []⟩
 generalize tVal.row vs = R at *
 have f2 : callW code ext 759 [.osl 0 0 2 vs.length cap, .clo 607 [.optr 1 0, .optr 2 0]] (allMem W B e R) = some (int64 (-1), allMem W B e R) := by
  rw [zbw code ext c.c759]
  simp -implicitDefEqProofs [x759, f1]
 have f3 : callW code ext 749 [.osl 0 0 2 vs.length cap, .clo 607 [.optr 1 0, .optr 2 0]] (allMem W B e R) = some (avb false, allMem W B e R) := by
  rw [zbw code ext c.c749]
  simp -implicitDefEqProofs [x749, f2]
 rw [zbw code ext c.c606]
 simp -implicitDefEqProofs [x606, f3]
theorem all_nil (c : RowCode code) {W B : List Nat} {e : Nat} :
  callW code ext 606 [.optr 0 0, nilS, .clo 612 []] (hMem W B e) = some (avb true, hMem W B e) := by
 have hl : ∀ M : Mem, M = hcMem W B e → den code ext (.loop [0, 1, 7, 8] x759L1) ⟨5, [(0, nilS), (1, .clo 607 [.optr 0 0, .optr 1 0]), (7, int64 0), (8, int64 0)], M⟩ = some (.exit 0, ⟨5, [(0, nilS), (1, .clo 607 [.optr 0 0, .optr 1 0]), (7, int64 0), (8, int64 0), (9, avb false)], M⟩) := by
  rintro M rfl
  rw [zc3]
  simp -implicitDefEqProofs [x759L1]
 have f1 := hl _ rfl
 have f2 : callW code ext 759 [nilS, .clo 607 [.optr 0 0, .optr 1 0]] (hcMem W B e) = some (int64 (-1), hcMem W B e) := by
  rw [zbw code ext c.c759]
  simp -implicitDefEqProofs [x759, f1]
 have f3 : callW code ext 749 [nilS, .clo 607 [.optr 0 0, .optr 1 0]] (hcMem W B e) = some (avb false, hcMem W B e) := by
  rw [zbw code ext c.c749]
  simp -implicitDefEqProofs [x749, f2]
 rw [zbw code ext c.c606]
 simp -implicitDefEqProofs [x606, f3]
end
end Go.EX

