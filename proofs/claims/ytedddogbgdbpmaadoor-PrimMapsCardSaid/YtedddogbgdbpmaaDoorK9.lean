import Derived.Test.YtedddogbgdbpmaaDoorK8
import Derived.Test.YtedddogbgdbpmaaDoorRows
import Derived.Laws.Strings
namespace Go.EX
def x485 : XFun :=
 ⟨[.tmp 4],(.seq (.region [0, 1] [o0 4 (.mv (.c (.bool false)))]) (.seq (.region [0, 1, 5] [o0 13 (.mv (.t 0)),
 o0 14 (.call .view 491 [.t 13]),
 o0 15 (.mv (.t 1)),
 o0 16 (.call .view 491 [.t 15]),
 o0 17 (.call .look 627 [(.c (.slice none 0 0)),(.c (.int .u8 1)),(.t 14),(.t 16)]),
 o0 5 (.alloc [(.slice none 0 0),(.int .u8 0),(.int .i64 0),(.string .empty),(.int .i64 0)]),
 o2 (.store 5 (.t 5) (.t 17))]) (.seq (.region [0, 1, 5, 6] [o0 18 (.fieldA 1 (.t 5)),
 o0 19 (.load (some 2) (.t 18)),
 o0 20 (.mv (.t 1)),
 o0 21 (.call .view 491 [.t 20]),
 o0 22 (.call .look 627 [(.c (.slice none 0 0)),(.c (.int .u8 2)),(.t 19),(.t 21)]),
 o0 6 (.alloc [(.slice none 0 0),(.int .u8 0),(.int .i64 0),(.string .empty),(.int .i64 0)]),
 o2 (.store 5 (.t 6) (.t 22))]) (.seq (.seq (.region [0, 1, 32] [o0 23 (.fieldA 1 (.t 6)),
 o0 24 (.load (some 2) (.t 23)),
 o0 25 (.mv (.t 0)),
 o0 26 (.call .view 491 [.t 25]),
 o0 27 (.eqCells true [0, 0] (.t 24) (.t 26)),
 o0 28 (.mv (.t 27)),
 o1 29 28 false (.fieldA 4 (.t 5)),
 o1 30 28 false (.load none (.t 29)),
 o1 31 28 false (.bin .neq (.t 30) (.c (.int .i64 0))),
 o0 32 (.pick (.t 28) (.c (.bool true)) (.t 31))]) (.cond (.t 32) (.seq (.region [4] [o0 4 (.mv (.c (.bool false)))]) .ret) .skip)) (.seq (.region [0, 1, 7] [o0 33 (.mv (.t 0)),
 o0 34 (.call .view 491 [.t 33]),
 o0 35 (.mv (.t 1)),
 o0 36 (.call .view 491 [.t 35]),
 o0 37 (.call .look 627 [(.c (.slice none 0 0)),(.c (.int .u8 6)),(.t 34),(.t 36)]),
 o0 38 (.field 1 (some 2) (.t 37)),
 o0 39 (.field 1 none (.t 38)),
 o0 7 (.mv (.t 39))]) (.seq (.region [0, 1, 7, 8] [o0 40 (.mv (.t 1)),
 o0 41 (.call .view 491 [.t 40]),
 o0 42 (.mv (.t 0)),
 o0 43 (.call .view 491 [.t 42]),
 o0 44 (.call .look 627 [(.c (.slice none 0 0)),(.c (.int .u8 7)),(.t 41),(.t 43)]),
 o0 45 (.field 1 (some 2) (.t 44)),
 o0 46 (.field 1 none (.t 45)),
 o0 8 (.mv (.t 46))]) (.seq (.seq (.region [0, 1, 50] [o0 47 (.mv (.t 7)),
 o0 48 (.mv (.t 8)),
 o0 49 (.bin .add (.t 47) (.t 48)),
 o0 50 (.bin .neq (.t 49) (.c (.int .i64 1)))]) (.cond (.t 50) (.seq (.region [4] [o0 4 (.mv (.c (.bool false)))]) .ret) .skip)) (.seq (.region [0, 1, 9] [o0 51 (.mv (.t 0)),
 o0 52 (.call .view 491 [.t 51]),
 o0 53 (.mv (.t 1)),
 o0 54 (.call .view 491 [.t 53]),
 o0 55 (.call .look 627 [(.c (.slice none 0 0)),(.c (.int .u8 4)),(.t 52),(.t 54)]),
 o0 9 (.alloc [(.slice none 0 0),(.int .u8 0),(.int .i64 0),(.string .empty),(.int .i64 0)]),
 o2 (.store 5 (.t 9) (.t 55))]) (.seq (.region [0, 1, 9, 10] [o0 56 (.mv (.t 0)),
 o0 57 (.call .view 491 [.t 56]),
 o0 58 (.mv (.t 1)),
 o0 59 (.call .view 491 [.t 58]),
 o0 60 (.call .look 627 [(.c (.slice none 0 0)),(.c (.int .u8 5)),(.t 57),(.t 59)]),
 o0 10 (.alloc [(.slice none 0 0),(.int .u8 0),(.int .i64 0),(.string .empty),(.int .i64 0)]),
 o2 (.store 5 (.t 10) (.t 60))]) (.seq (.seq (.region [0, 1, 9, 10, 62] [o0 61 (.mv (.t 1)),
 o0 62 (.bin .eql (.t 61) (.c (.int .i64 0)))]) (.cond (.t 62) (.seq (.region [4] [o0 63 (.fieldA 3 (.t 9)),
 o0 64 (.load none (.t 63)),
 o0 65 (.bin .eql (.t 64) (.c (.string ⟨#[122, 101, 114, 111]⟩))),
 o0 66 (.mv (.t 65)),
 o1 67 66 true (.fieldA 3 (.t 10)),
 o1 68 66 true (.load none (.t 67)),
 o1 69 66 true (.bin .eql (.t 68) (.c (.string ⟨#[122, 101, 114, 111]⟩))),
 o0 70 (.pick (.t 66) (.t 69) (.c (.bool false))),
 o0 71 (.mv (.t 70)),
 o1 72 71 true (.call .view 489 []),
 o0 73 (.pick (.t 71) (.t 72) (.c (.bool false))),
 o0 4 (.mv (.t 73))]) .ret) .skip)) (.seq (.region [0, 10, 11] [o0 74 (.fieldA 1 (.t 9)),
 o0 75 (.load (some 2) (.t 74)),
 o0 76 (.mv (.t 1)),
 o0 77 (.call .view 491 [.t 76]),
 o0 78 (.call .look 627 [(.c (.slice none 0 0)),(.c (.int .u8 3)),(.t 75),(.t 77)]),
 o0 11 (.alloc [(.slice none 0 0),(.int .u8 0),(.int .i64 0),(.string .empty),(.int .i64 0)]),
 o2 (.store 5 (.t 11) (.t 78))]) (.seq (.region [0, 12] [o0 79 (.fieldA 1 (.t 11)),
 o0 80 (.load (some 2) (.t 79)),
 o0 81 (.fieldA 1 (.t 10)),
 o0 82 (.load (some 2) (.t 81)),
 o0 83 (.call .look 627 [(.c (.slice none 0 0)),(.c (.int .u8 1)),(.t 80),(.t 82)]),
 o0 12 (.alloc [(.slice none 0 0),(.int .u8 0),(.int .i64 0),(.string .empty),(.int .i64 0)]),
 o2 (.store 5 (.t 12) (.t 83))]) (.seq (.region [4] [o0 84 (.fieldA 1 (.t 12)),
 o0 85 (.load (some 2) (.t 84)),
 o0 86 (.mv (.t 0)),
 o0 87 (.call .view 491 [.t 86]),
 o0 88 (.eqCells false [0, 0] (.t 85) (.t 87)),
 o0 89 (.mv (.t 88)),
 o1 90 89 true (.call .view 489 []),
 o0 91 (.pick (.t 89) (.t 90) (.c (.bool false))),
 o0 4 (.mv (.t 91))]) .ret)))))))))))))⟩
def x627 : XFun :=
 ⟨[.cell 8 (some 5)],(.seq (.region [0, 1, 6, 7, 8] [o0 6 (.box 2 (.t 2)),
 o0 7 (.box 2 (.t 3)),
 o0 8 (.alloc [(.slice none 0 0),(.int .u8 0),(.int .i64 0),(.string .empty),(.int .i64 0)])]) (.seq (.region [8] [o0 9 (.mv (.t 0)),
 o0 10 (.mv (.t 1)),
 o0 11 (.conv .i64 (.t 10)),
 o0 12 (.load (some 2) (.t 6)),
 o0 13 (.load (some 2) (.t 7)),
 o0 14 (.buildSlice 2 [(.int .u8 0),(.int .i64 0)] 2 [(0, 2,(.t 12)),(2, 2,(.t 13))]),
 o0 15 (.call .share 640 [(.t 9),(.c (.int .u8 14)),(.t 11),(.t 14)]),
 o2 (.store 5 (.t 8) (.t 15))]) .ret))⟩
def x491 : XFun :=
 ⟨[.cell 2 (some 2)],(.seq (.region [0, 2] [o0 2 (.alloc [(.int .u8 0),(.int .i64 0)])]) (.seq (.region [2] [o0 3 (.mv (.t 0)),
 o0 4 (.build [(.int .u8 0),(.int .i64 0)] [(0, 1,(.c (.int .u8 2))),(1, 1,(.t 3))]),
 o2 (.store 2 (.t 2) (.t 4))]) .ret))⟩
def x489 : XFun :=
 ⟨[.tmp 0],(.seq (.region [] [o0 0 (.mv (.c (.bool false)))]) (.seq (.region [1] [o0 5 (.call .view 491 [(.c (.int .i64 1))]),
 o0 6 (.call .view 491 [(.c (.int .i64 2))]),
 o0 7 (.buildSlice 2 [(.int .u8 0),(.int .i64 0)] 2 [(0, 2,(.t 5)),(2, 2,(.t 6))]),
 o0 8 (.call .look 632 [(.c (.slice none 0 0)),(.t 7)]),
 o0 1 (.alloc [(.slice none 0 0),(.int .u8 0),(.int .i64 0),(.string .empty),(.int .i64 0)]),
 o2 (.store 5 (.t 1) (.t 8))]) (.seq (.region [1, 2] [o0 9 (.fieldA 0 (.t 1)),
 o0 10 (.load none (.t 9)),
 o0 11 (.fieldA 1 (.t 1)),
 o0 12 (.load (some 2) (.t 11)),
 o0 13 (.call .view 491 [(.c (.int .i64 2))]),
 o0 14 (.call .view 491 [(.c (.int .i64 9))]),
 o0 15 (.call .look 636 [(.t 10),(.t 12),(.t 13),(.t 14)]),
 o0 2 (.alloc [(.slice none 0 0),(.int .u8 0),(.int .i64 0),(.string .empty),(.int .i64 0)]),
 o2 (.store 5 (.t 2) (.t 15))]) (.seq (.region [1, 2, 3] [o0 16 (.fieldA 0 (.t 2)),
 o0 17 (.load none (.t 16)),
 o0 18 (.fieldA 1 (.t 1)),
 o0 19 (.load (some 2) (.t 18)),
 o0 20 (.call .view 491 [(.c (.int .i64 2))]),
 o0 21 (.call .look 630 [(.t 17),(.t 19),(.t 20)]),
 o0 3 (.alloc [(.slice none 0 0),(.int .u8 0),(.int .i64 0),(.string .empty),(.int .i64 0)]),
 o2 (.store 5 (.t 3) (.t 21))]) (.seq (.region [1, 2, 3, 4] [o0 22 (.fieldA 0 (.t 1)),
 o0 23 (.load none (.t 22)),
 o0 24 (.fieldA 1 (.t 1)),
 o0 25 (.load (some 2) (.t 24)),
 o0 26 (.call .view 491 [(.c (.int .i64 2))]),
 o0 27 (.call .look 630 [(.t 23),(.t 25),(.t 26)]),
 o0 4 (.alloc [(.slice none 0 0),(.int .u8 0),(.int .i64 0),(.string .empty),(.int .i64 0)]),
 o2 (.store 5 (.t 4) (.t 27))]) (.seq (.region [0] [o0 28 (.fieldA 4 (.t 1)),
 o0 29 (.load none (.t 28)),
 o0 30 (.bin .eql (.t 29) (.c (.int .i64 8))),
 o0 31 (.mv (.t 30)),
 o1 32 31 true (.fieldA 4 (.t 2)),
 o1 33 31 true (.load none (.t 32)),
 o1 34 31 true (.bin .eql (.t 33) (.c (.int .i64 9))),
 o0 35 (.pick (.t 31) (.t 34) (.c (.bool false))),
 o0 36 (.mv (.t 35)),
 o1 37 36 true (.fieldA 1 (.t 3)),
 o1 38 36 true (.load (some 2) (.t 37)),
 o1 39 36 true (.call .view 491 [(.c (.int .i64 9))]),
 o1 40 36 true (.eqCells false [0, 0] (.t 38) (.t 39)),
 o0 41 (.pick (.t 36) (.t 40) (.c (.bool false))),
 o0 42 (.mv (.t 41)),
 o1 43 42 true (.fieldA 3 (.t 4)),
 o1 44 42 true (.load none (.t 43)),
 o1 45 42 true (.bin .eql (.t 44) (.c (.string ⟨#[98, 111, 117, 110, 100, 115]⟩))),
 o0 46 (.pick (.t 42) (.t 45) (.c (.bool false))),
 o0 47 (.mv (.t 46)),
 o1 48 47 true (.call .view 491 [(.c (.int .i64 1))]),
 o1 49 47 true (.call .view 491 [(.c (.int .i64 0))]),
 o1 50 47 true (.call .look 627 [(.c (.slice none 0 0)),(.c (.int .u8 4)),(.t 48),(.t 49)]),
 o1 51 47 true (.field 3 none (.t 50)),
 o1 52 47 true (.bin .eql (.t 51) (.c (.string ⟨#[122, 101, 114, 111]⟩))),
 o0 53 (.pick (.t 47) (.t 52) (.c (.bool false))),
 o0 0 (.mv (.t 53))]) .ret))))))⟩
def x633 : XFun :=
 ⟨[.cell 4 (some 5)],(.seq (.region [0, 1, 4] [o0 4 (.alloc [(.slice none 0 0),(.int .u8 0),(.int .i64 0),(.string .empty),(.int .i64 0)])]) (.seq (.region [4] [o0 5 (.mv (.t 0)),
 o0 6 (.mv (.t 1)),
 o0 7 (.call .share 640 [(.t 5),(.c (.int .u8 23)),(.c (.int .i64 0)),(.t 6)]),
 o2 (.store 5 (.t 4) (.t 7))]) .ret))⟩
def x636 : XFun :=
 ⟨[.cell 8 (some 5)],(.seq (.region [0, 5, 6, 7, 8] [o0 5 (.box 2 (.t 1)),
 o0 6 (.box 2 (.t 2)),
 o0 7 (.box 2 (.t 3)),
 o0 8 (.alloc [(.slice none 0 0),(.int .u8 0),(.int .i64 0),(.string .empty),(.int .i64 0)])]) (.seq (.region [8] [o0 9 (.mv (.t 0)),
 o0 10 (.load (some 2) (.t 5)),
 o0 11 (.load (some 2) (.t 6)),
 o0 12 (.load (some 2) (.t 7)),
 o0 13 (.buildSlice 2 [(.int .u8 0),(.int .i64 0)] 3 [(0, 2,(.t 10)),(2, 2,(.t 11)),(4, 2,(.t 12))]),
 o0 14 (.call .share 640 [(.t 9),(.c (.int .u8 25)),(.c (.int .i64 0)),(.t 13)]),
 o2 (.store 5 (.t 8) (.t 14))]) .ret))⟩
def x631 : XFun :=
 ⟨[.cell 4 (some 5)],(.seq (.region [0, 3, 4] [o0 3 (.box 2 (.t 1)),
 o0 4 (.alloc [(.slice none 0 0),(.int .u8 0),(.int .i64 0),(.string .empty),(.int .i64 0)])]) (.seq (.region [4] [o0 5 (.mv (.t 0)),
 o0 6 (.load (some 2) (.t 3)),
 o0 7 (.buildSlice 2 [(.int .u8 0),(.int .i64 0)] 1 [(0, 2,(.t 6))]),
 o0 8 (.call .share 640 [(.t 5),(.c (.int .u8 17)),(.c (.int .i64 0)),(.t 7)]),
 o2 (.store 5 (.t 4) (.t 8))]) .ret))⟩
def x630 : XFun :=
 ⟨[.cell 6 (some 5)],(.seq (.region [0, 4, 5, 6] [o0 4 (.box 2 (.t 1)),
 o0 5 (.box 2 (.t 2)),
 o0 6 (.alloc [(.slice none 0 0),(.int .u8 0),(.int .i64 0),(.string .empty),(.int .i64 0)])]) (.seq (.region [6] [o0 7 (.mv (.t 0)),
 o0 8 (.load (some 2) (.t 4)),
 o0 9 (.load (some 2) (.t 5)),
 o0 10 (.buildSlice 2 [(.int .u8 0),(.int .i64 0)] 2 [(0, 2,(.t 8)),(2, 2,(.t 9))]),
 o0 11 (.call .share 640 [(.t 7),(.c (.int .u8 24)),(.c (.int .i64 0)),(.t 10)]),
 o2 (.store 5 (.t 6) (.t 11))]) .ret))⟩
def x632 : XFun :=
 ⟨[.cell 4 (some 5)],(.seq (.region [0, 1, 4] [o0 4 (.alloc [(.slice none 0 0),(.int .u8 0),(.int .i64 0),(.string .empty),(.int .i64 0)])]) (.seq (.region [4] [o0 5 (.mv (.t 0)),
 o0 6 (.mv (.t 1)),
 o0 7 (.call .share 640 [(.t 5),(.c (.int .u8 22)),(.c (.int .i64 0)),(.t 6)]),
 o2 (.store 5 (.t 4) (.t 7))]) .ret))⟩
def x640 : XFun :=
 ⟨[.cell 8 (some 5)],(.seq (.region [1, 2, 3, 4, 8] [o0 4 (.box 1 (.t 0)),
 o0 8 (.alloc [(.slice none 0 0),(.int .u8 0),(.int .i64 0),(.string .empty),(.int .i64 0)])]) (.seq (.region [1, 2, 3, 4, 8, 9] [o0 13 (.load none (.t 4)),
 o0 14 (.call .look 643 [.t 13]),
 o0 9 (.mv (.t 14))]) (.seq (.seq (.region [1, 2, 3, 8, 9, 17] [o0 15 (.mv (.t 3)),
 o0 16 (.mkClo 641 [.t 4]),
 o0 17 (.call .share 749 [(.t 15),(.t 16)])]) (.cond (.t 17) (.seq (.region [8] [o0 18 (.mv (.t 9)),
 o0 19 (.build [(.slice none 0 0),(.int .u8 0),(.int .i64 0),(.string .empty),(.int .i64 0)] [(0, 1,(.t 18)),(3, 1,(.c (.string ⟨#[107, 105, 110, 100]⟩)))]),
 o2 (.store 5 (.t 8) (.t 19))]) .ret) .skip)) (.seq (.region [1, 2, 3, 8, 9, 10] [o0 20 (.mv (.t 9)),
 o0 21 (.build [(.slice none 0 0),(.int .i64 0),(.int .i64 0)] [(0, 1,(.t 20)),(1, 1,(.c (.int .i64 1152921504606846976)))]),
 o0 22 (.box 3 (.t 21)),
 o0 10 (.mv (.t 22))]) (.seq (.region [1, 2, 3, 8, 10, 11] [o0 23 (.mv (.t 9)),
 o0 24 (.call .own 642 [.t 23]),
 o0 11 (.mv (.t 24))]) (.seq (.region [8, 10, 11, 12] [o0 25 (.mv (.t 10)),
 o0 26 (.mv (.t 1)),
 o0 27 (.mv (.t 2)),
 o0 28 (.mv (.t 3)),
 o0 29 (.build [(.int .u8 0),(.int .i64 0),(.slice none 0 0),(.slice none 0 0)] [(0, 1,(.t 26)),(1, 1,(.t 27)),(2, 1,(.t 28))]),
 o0 30 (.call .share 206 [(.t 25),(.t 29)]),
 o0 12 (.alloc [(.int .u8 0),(.int .i64 0),(.string .empty),(.bool false)]),
 o2 (.store 4 (.t 12) (.t 30))]) (.seq (.region [8] [o0 31 (.mv (.t 10)),
 o0 32 (.nilCheck (.t 31)),
 o0 33 (.fieldA 0 (.t 32)),
 o0 34 (.load none (.t 33)),
 o0 35 (.call .look 643 [.t 34]),
 o0 36 (.fieldA 0 (.t 12)),
 o0 37 (.load (some 2) (.t 36)),
 o0 38 (.fieldA 2 (.t 12)),
 o0 39 (.load none (.t 38)),
 o0 40 (.mv (.t 10)),
 o0 41 (.nilCheck (.t 40)),
 o0 42 (.fieldA 0 (.t 41)),
 o0 43 (.load none (.t 42)),
 o0 44 (.mv (.t 11)),
 o0 45 (.call .view 639 [(.t 43),(.t 44)]),
 o0 46 (.build [(.slice none 0 0),(.int .u8 0),(.int .i64 0),(.string .empty),(.int .i64 0)] [(0, 1,(.t 35)),(1, 2,(.t 37)),(3, 1,(.t 39)),(4, 1,(.t 45))]),
 o2 (.store 5 (.t 8) (.t 46))]) .ret)))))))⟩
@[simp] def sameC111f (c0 : XCode) : XFun :=
 ⟨[.tmp 4],(.seq (.region [0, 1] [o0 4 (.mv (.c (.bool false)))]) (.seq (.seq (.region [0, 1, 10] [o0 6 (.mv (.t 0)),o0 7 (.len (.t 6)),o0 8 (.mv (.t 1)),o0 9 (.len (.t 8)),o0 10 (.bin .neq (.t 7) (.t 9))]) (.cond (.t 10) (.seq (.region [4] [o0 4 (.mv (.c (.bool false)))]) .ret) .skip)) (.seq (.seq (.region [0, 1, 5] [o0 5 (.mv (.c (.int .i64 0)))]) (.block 0 (.loop [0, 1, 5] c0))) (.seq (.region [4] [o0 4 (.mv (.c (.bool true)))]) .ret))))⟩
def x643L1 : XCode :=
 (.seq (.region [3, 8, 9, 10] [o0 10 (.bin .lss (.t 9) (.t 8))]) (.seq (.cond (.t 10) .skip (.exit 0)) (.seq (.block 1 (.seq (.region [3, 4, 8, 9] [o0 11 (.mv (.t 9)),
 o0 4 (.mv (.t 11))]) (.region [3, 8, 9] [o0 12 (.mv (.t 3)),
 o0 13 (.mv (.t 4)),
 o0 14 (.mv (.t 3)),
 o0 15 (.mv (.t 4)),
 o0 16 (.idxA 5 (.t 14) (.t 15)),
 o0 17 (.fieldA 2 (.t 16)),
 o0 18 (.load none (.t 17)),
 o0 19 (.call .own 742 [.t 18]),
 o0 20 (.call .share 740 [.t 19]),
 o0 21 (.idxA 5 (.t 12) (.t 13)),
 o0 22 (.fieldA 2 (.t 21)),
 o2 (.store 1 (.t 22) (.t 20))]))) (.region [3, 8, 9] [o0 23 (.bin .add (.t 9) (.c (.int .i64 1))),
 o0 9 (.mv (.t 23))]))))
def x643 : XFun :=
 ⟨[.tmp 2],(.seq (.region [0] [o0 2 (.mv (.c (.slice none 0 0)))]) (.seq (.region [3] [o0 5 (.mv (.t 0)),
 o0 6 (.call .share 743 [.t 5]),
 o0 3 (.mv (.t 6))]) (.seq (.seq (.region [3, 8, 9] [o0 7 (.mv (.t 3)),
 o0 8 (.len (.t 7)),
 o0 9 (.mv (.c (.int .i64 0)))]) (.block 0 (.loop [3, 8, 9] x643L1))) (.seq (.region [2] [o0 24 (.mv (.t 3)),
 o0 25 (.call .share 741 [.t 24]),
 o0 2 (.mv (.t 25))]) .ret))))⟩
def x641 : XFun :=
 ⟨[.tmp 3],(.seq (.region [1, 2] [o0 2 (.box 2 (.t 0)),
 o0 3 (.mv (.c (.bool false)))]) (.seq (.region [3] [o0 4 (.load none (.t 1)),
 o0 5 (.load (some 2) (.t 2)),
 o0 6 (.call .share 646 [(.t 4),(.t 5)]),
 o0 7 (.un .not (.t 6)),
 o0 3 (.mv (.t 7))]) .ret))⟩
def x642L1 : XCode :=
 (.seq (.region [2, 5, 6, 7, 8] [o0 8 (.bin .lss (.t 7) (.t 6))]) (.seq (.cond (.t 8) .skip (.exit 0)) (.seq (.block 1 (.seq (.region [2, 4, 5, 6, 7] [o0 9 (.idxA 5 (.t 5) (.t 7)),
 o0 10 (.load (some 5) (.t 9)),
 o0 4 (.alloc [(.int .u8 0),(.string .empty),(.slice none 0 0),(.int .i64 0),(.int .i64 0)]),
 o2 (.store 5 (.t 4) (.t 10))]) (.region [2, 5, 6, 7] [o0 11 (.mv (.t 2)),
 o0 12 (.load (some 5) (.t 4)),
 o0 13 (.call .view 578 [.t 12]),
 o0 14 (.buildSlice 1 [(.int .i64 0)] 1 [(0, 1,(.t 13))]),
 o0 15 (.append 1 8 (.t 11) (.t 14)),
 o0 2 (.mv (.t 15))]))) (.region [2, 5, 6, 7] [o0 16 (.bin .add (.t 7) (.c (.int .i64 1))),
 o0 7 (.mv (.t 16))]))))
def x642 : XFun :=
 ⟨[.tmp 2],(.seq (.region [0, 2] [o0 2 (.mv (.c (.slice none 0 0)))]) (.seq (.seq (.region [2, 5, 6, 7] [o0 5 (.mv (.t 0)),
 o0 6 (.len (.t 5)),
 o0 7 (.mv (.c (.int .i64 0)))]) (.block 0 (.loop [2, 5, 6, 7] x642L1))) (.seq (.region [2] [o0 17 (.mv (.t 2)),
 o0 2 (.mv (.t 17))]) .ret)))⟩
def x206 : XFun :=
 ⟨[.cell 4 (some 4)],(.seq (.region [0, 3, 4] [o0 3 (.box 4 (.t 1)),
 o0 4 (.alloc [(.int .u8 0),(.int .i64 0),(.string .empty),(.bool false)])]) (.seq (.region [0, 3, 4, 5] [o0 9 (.fieldA 2 (.t 3)),
 o0 10 (.load none (.t 9)),
 o0 5 (.mv (.t 10))]) (.seq (.seq (.region [0, 3, 4, 5, 12] [o0 11 (.fieldA 0 (.t 3)),
 o0 12 (.load none (.t 11))]) (.block 0 (.seq (.region [0, 3, 4, 5, 12, 13] [o0 14 (.bin .eql (.t 12) (.c (.int .u8 1))),
 o0 13 (.mv (.t 14))]) (.cond (.t 13) (.seq (.seq (.region [0, 3, 4, 6] [o0 15 (.fieldA 3 (.t 3)),
 o0 16 (.load none (.t 15)),
 o0 17 (.fieldA 1 (.t 3)),
 o0 18 (.load none (.t 17)),
 o0 19 (.idxA 3 (.t 16) (.t 18)),
 o0 20 (.load (some 3) (.t 19)),
 o0 6 (.alloc [(.int .u8 0),(.int .i64 0),(.string .empty)]),
 o2 (.store 3 (.t 6) (.t 20))]) (.seq (.region [0, 3, 4, 6, 23] [o0 21 (.fieldA 0 (.t 6)),
 o0 22 (.load none (.t 21)),
 o0 23 (.bin .eql (.t 22) (.c (.int .u8 3)))]) (.cond (.t 23) (.seq (.region [4] [o0 24 (.mv (.t 0)),
 o0 25 (.fieldA 2 (.t 6)),
 o0 26 (.load none (.t 25)),
 o0 27 (.call .share 219 [(.t 24),(.t 26)]),
 o2 (.store 4 (.t 4) (.t 27))]) .ret) .skip))) (.seq (.region [4] [o0 28 (.fieldA 3 (.t 3)),
 o0 29 (.load none (.t 28)),
 o0 30 (.fieldA 1 (.t 3)),
 o0 31 (.load none (.t 30)),
 o0 32 (.idxA 3 (.t 29) (.t 31)),
 o0 33 (.fieldA 1 (.t 32)),
 o0 34 (.load none (.t 33)),
 o0 35 (.build [(.int .u8 0),(.int .i64 0)] [(0, 1,(.c (.int .u8 2))),(1, 1,(.t 34))]),
 o0 36 (.build [(.int .u8 0),(.int .i64 0),(.string .empty),(.bool false)] [(0, 2,(.t 35))]),
 o2 (.store 4 (.t 4) (.t 36))]) .ret)) (.seq (.region [0, 3, 4, 5, 37] [o0 38 (.bin .eql (.t 12) (.c (.int .u8 26))),
 o0 37 (.mv (.t 38))]) (.cond (.t 37) (.seq (.seq (.region [0, 3, 4, 5, 40] [o0 39 (.mv (.t 5)),
 o0 40 (.call .share 749 [(.t 39),(.f 207)])]) (.cond (.t 40) (.seq (.region [4] [o0 41 (.build [(.int .u8 0),(.int .i64 0),(.string .empty),(.bool false)] [(2, 1,(.c (.string ⟨#[107, 105, 110, 100]⟩)))]),
 o2 (.store 4 (.t 4) (.t 41))]) .ret) .skip)) (.seq (.region [4] [o0 42 (.mv (.t 0)),
 o0 43 (.mv (.t 5)),
 o0 44 (.call .own 742 [.t 43]),
 o0 45 (.fieldA 1 (.t 3)),
 o0 46 (.load none (.t 45)),
 o0 47 (.build [(.int .u8 0),(.string .empty),(.slice none 0 0),(.int .i64 0),(.int .i64 0)] [(0, 1,(.c (.int .u8 6))),(2, 1,(.t 44)),(4, 1,(.t 46))]),
 o0 48 (.call .share 212 [(.t 42),(.t 47)]),
 o2 (.store 4 (.t 4) (.t 48))]) .ret)) .skip)))))) (.seq (.seq (.region [0, 3, 4, 5, 50] [o0 49 (.mv (.t 5)),
 o0 50 (.call .view 580 [.t 49])]) (.cond (.t 50) (.seq (.region [4] [o0 51 (.build [(.int .u8 0),(.int .i64 0),(.string .empty),(.bool false)] [(2, 1,(.c (.string ⟨#[107, 105, 110, 100]⟩)))]),
 o2 (.store 4 (.t 4) (.t 51))]) .ret) .skip)) (.seq (.seq (.region [0, 3, 4, 5, 53] [o0 52 (.fieldA 0 (.t 3)),
 o0 53 (.load none (.t 52))]) (.block 1 (.seq (.region [0, 3, 4, 5, 53, 54] [o0 55 (.bin .eql (.t 53) (.c (.int .u8 14))),
 o0 54 (.mv (.t 55))]) (.cond (.t 54) (.seq (.region [4] [o0 56 (.mv (.t 0)),
 o0 57 (.fieldA 1 (.t 3)),
 o0 58 (.load none (.t 57)),
 o0 59 (.conv .u8 (.t 58)),
 o0 60 (.mv (.t 5)),
 o0 61 (.idxA 2 (.t 60) (.c (.int .i64 0))),
 o0 62 (.load (some 2) (.t 61)),
 o0 63 (.mv (.t 5)),
 o0 64 (.idxA 2 (.t 63) (.c (.int .i64 1))),
 o0 65 (.load (some 2) (.t 64)),
 o0 66 (.call .share 210 [(.t 56),(.t 59),(.t 62),(.t 65)]),
 o2 (.store 4 (.t 4) (.t 66))]) .ret) (.seq (.region [0, 4, 5, 53, 67] [o0 68 (.bin .eql (.t 53) (.c (.int .u8 15))),
 o0 67 (.mv (.t 68))]) (.cond (.t 67) (.seq (.region [4, 5, 73] [o0 69 (.mv (.t 5)),
 o0 70 (.idxA 2 (.t 69) (.c (.int .i64 0))),
 o0 71 (.fieldA 0 (.t 70)),
 o0 72 (.load none (.t 71)),
 o0 73 (.bin .eql (.t 72) (.c (.int .u8 1)))]) (.cond (.t 73) (.seq (.region [4] [o0 74 (.mv (.t 5)),
 o0 75 (.idxA 2 (.t 74) (.c (.int .i64 0))),
 o0 76 (.fieldA 1 (.t 75)),
 o0 77 (.load none (.t 76)),
 o0 78 (.bin .eql (.t 77) (.c (.int .i64 0))),
 o0 79 (.call .view 588 [.t 78]),
 o0 80 (.build [(.int .u8 0),(.int .i64 0),(.string .empty),(.bool false)] [(0, 2,(.t 79))]),
 o2 (.store 4 (.t 4) (.t 80))]) .ret) .skip)) (.seq (.region [0, 4, 5, 53, 81] [o0 82 (.bin .eql (.t 53) (.c (.int .u8 16))),
 o0 81 (.mv (.t 82))]) (.cond (.t 81) (.seq (.region [4, 5, 87] [o0 83 (.mv (.t 5)),
 o0 84 (.idxA 2 (.t 83) (.c (.int .i64 0))),
 o0 85 (.fieldA 0 (.t 84)),
 o0 86 (.load none (.t 85)),
 o0 87 (.bin .eql (.t 86) (.c (.int .u8 2)))]) (.cond (.t 87) (.seq (.region [4] [o0 88 (.mv (.t 5)),
 o0 89 (.idxA 2 (.t 88) (.c (.int .i64 0))),
 o0 90 (.fieldA 1 (.t 89)),
 o0 91 (.load none (.t 90)),
 o0 92 (.un .neg (.t 91)),
 o0 93 (.build [(.int .u8 0),(.int .i64 0)] [(0, 1,(.c (.int .u8 2))),(1, 1,(.t 92))]),
 o0 94 (.build [(.int .u8 0),(.int .i64 0),(.string .empty),(.bool false)] [(0, 2,(.t 93))]),
 o2 (.store 4 (.t 4) (.t 94))]) .ret) .skip)) (.seq (.region [0, 4, 5, 53, 95] [o0 96 (.bin .eql (.t 53) (.c (.int .u8 17))),
 o0 95 (.mv (.t 96))]) (.cond (.t 95) (.seq (.region [4] [o0 97 (.mv (.t 0)),
 o0 98 (.mv (.t 5)),
 o0 99 (.idxA 2 (.t 98) (.c (.int .i64 0))),
 o0 100 (.load (some 2) (.t 99)),
 o0 101 (.call .share 217 [(.t 97),(.t 100)]),
 o2 (.store 4 (.t 4) (.t 101))]) .ret) (.seq (.region [0, 4, 5, 53, 102] [o0 103 (.bin .eql (.t 53) (.c (.int .u8 18))),
 o0 102 (.mv (.t 103))]) (.cond (.t 102) (.seq (.region [0, 4, 7, 8] [o0 105 (.mv (.t 0)),
 o0 106 (.mv (.t 5)),
 o0 107 (.idxA 2 (.t 106) (.c (.int .i64 0))),
 o0 108 (.load (some 2) (.t 107)),
 o0 109 (.call .share 208 [(.t 105),(.t 108)]),
 o0 104 (.mv (.t 109)),
 o0 110 (.extract (.t 104) 0),
 o0 111 (.extract (.t 104) 1),
 o0 7 (.mv (.t 110)),
 o0 8 (.mv (.t 111))]) (.seq (.seq (.region [0, 4, 7, 113] [o0 112 (.mv (.t 8)),
 o0 113 (.un .not (.t 112))]) (.cond (.t 113) (.seq (.region [4] [o0 114 (.build [(.int .u8 0),(.int .i64 0),(.string .empty),(.bool false)] [(2, 1,(.c (.string ⟨#[103, 114, 101, 97, 116]⟩)))]),
 o2 (.store 4 (.t 4) (.t 114))]) .ret) .skip)) (.seq (.region [4] [o0 115 (.mv (.t 0)),
 o0 116 (.mv (.t 7)),
 o0 117 (.call .share 219 [(.t 115),(.t 116)]),
 o2 (.store 4 (.t 4) (.t 117))]) .ret))) (.seq (.region [0, 4, 5, 53, 118] [o0 119 (.bin .eql (.t 53) (.c (.int .u8 22))),
 o0 118 (.mv (.t 119))]) (.cond (.t 118) (.seq (.seq (.region [0, 4, 5, 122] [o0 120 (.mv (.t 5)),
 o0 121 (.len (.t 120)),
 o0 122 (.bin .gtr (.t 121) (.c (.int .i64 65536)))]) (.cond (.t 122) (.seq (.region [4] [o0 123 (.build [(.int .u8 0),(.int .i64 0),(.string .empty),(.bool false)] [(2, 1,(.c (.string ⟨#[105, 116, 101, 109, 115]⟩)))]),
 o2 (.store 4 (.t 4) (.t 123))]) .ret) .skip)) (.seq (.region [4] [o0 124 (.mv (.t 0)),
 o0 125 (.mv (.t 5)),
 o0 126 (.call .own 742 [.t 125]),
 o0 127 (.mv (.t 5)),
 o0 128 (.len (.t 127)),
 o0 129 (.build [(.int .u8 0),(.string .empty),(.slice none 0 0),(.int .i64 0),(.int .i64 0)] [(0, 1,(.c (.int .u8 4))),(2, 1,(.t 126)),(3, 1,(.t 128))]),
 o0 130 (.call .share 212 [(.t 124),(.t 129)]),
 o2 (.store 4 (.t 4) (.t 130))]) .ret)) (.seq (.region [0, 4, 5, 53, 131] [o0 132 (.bin .eql (.t 53) (.c (.int .u8 23))),
 o0 131 (.mv (.t 132))]) (.cond (.t 131) (.seq (.region [4] [o0 133 (.mv (.t 0)),
 o0 134 (.mv (.t 5)),
 o0 135 (.call .share 214 [(.t 133),(.t 134)]),
 o2 (.store 4 (.t 4) (.t 135))]) .ret) (.seq (.region [0, 4, 5, 53, 136] [o0 137 (.bin .eql (.t 53) (.c (.int .u8 7))),
 o0 136 (.mv (.t 137))]) (.cond (.t 136) (.seq (.region [4] [o0 138 (.mv (.t 0)),
 o0 139 (.mv (.t 5)),
 o0 140 (.call .own 742 [.t 139]),
 o0 141 (.build [(.int .u8 0),(.string .empty),(.slice none 0 0),(.int .i64 0),(.int .i64 0)] [(0, 1,(.c (.int .u8 7))),(2, 1,(.t 140))]),
 o0 142 (.call .share 212 [(.t 138),(.t 141)]),
 o2 (.store 4 (.t 4) (.t 142))]) .ret) (.seq (.region [0, 4, 5, 53, 143] [o0 144 (.bin .eql (.t 53) (.c (.int .u8 24))),
 o0 143 (.mv (.t 144))]) (.cond (.t 143) (.seq (.region [4] [o0 145 (.mv (.t 0)),
 o0 146 (.mv (.t 5)),
 o0 147 (.idxA 2 (.t 146) (.c (.int .i64 0))),
 o0 148 (.load (some 2) (.t 147)),
 o0 149 (.mv (.t 5)),
 o0 150 (.idxA 2 (.t 149) (.c (.int .i64 1))),
 o0 151 (.load (some 2) (.t 150)),
 o0 152 (.call .share 211 [(.t 145),(.t 148),(.t 151)]),
 o2 (.store 4 (.t 4) (.t 152))]) .ret) (.seq (.region [0, 4, 5, 153] [o0 154 (.bin .eql (.t 53) (.c (.int .u8 25))),
 o0 153 (.mv (.t 154))]) (.cond (.t 153) (.seq (.region [4] [o0 155 (.mv (.t 0)),
 o0 156 (.mv (.t 5)),
 o0 157 (.idxA 2 (.t 156) (.c (.int .i64 0))),
 o0 158 (.load (some 2) (.t 157)),
 o0 159 (.mv (.t 5)),
 o0 160 (.idxA 2 (.t 159) (.c (.int .i64 1))),
 o0 161 (.load (some 2) (.t 160)),
 o0 162 (.mv (.t 5)),
 o0 163 (.idxA 2 (.t 162) (.c (.int .i64 2))),
 o0 164 (.load (some 2) (.t 163)),
 o0 165 (.call .share 215 [(.t 155),(.t 158),(.t 161),(.t 164)]),
 o2 (.store 4 (.t 4) (.t 165))]) .ret) .skip)))))))))))))))))))))) (.seq (.region [4] [o0 166 (.build [(.int .u8 0),(.int .i64 0),(.string .empty),(.bool false)] [(2, 1,(.c (.string ⟨#[107, 105, 110, 100]⟩)))]),
 o2 (.store 4 (.t 4) (.t 166))]) .ret))))))⟩
def x639L1 : XCode :=
 (.seq (.region [1, 4, 7, 8, 9, 10] [o0 10 (.bin .lss (.t 9) (.t 8))]) (.seq (.cond (.t 10) .skip (.exit 0)) (.seq (.block 1 (.seq (.region [1, 4, 5, 6, 7, 8, 9] [o0 11 (.mv (.t 9)),
 o0 12 (.idxA 5 (.t 7) (.t 9)),
 o0 13 (.load (some 5) (.t 12)),
 o0 6 (.alloc [(.int .u8 0),(.string .empty),(.slice none 0 0),(.int .i64 0),(.int .i64 0)]),
 o0 5 (.mv (.t 11)),
 o2 (.store 5 (.t 6) (.t 13))]) (.block 2 (.seq (.region [1, 4, 5, 6, 7, 8, 9, 14] [o0 15 (.mv (.t 5)),
 o0 16 (.mv (.t 1)),
 o0 17 (.len (.t 16)),
 o0 18 (.bin .geq (.t 15) (.t 17)),
 o0 14 (.mv (.t 18))]) (.cond (.t 14) (.region [1, 4, 7, 8, 9] [o0 19 (.mv (.t 4)),
 o0 20 (.load (some 5) (.t 6)),
 o0 21 (.call .view 578 [.t 20]),
 o0 22 (.bin .add (.t 19) (.t 21)),
 o0 4 (.mv (.t 22))]) (.seq (.region [1, 4, 6, 7, 8, 9, 23] [o0 24 (.load (some 5) (.t 6)),
 o0 25 (.call .view 578 [.t 24]),
 o0 26 (.mv (.t 1)),
 o0 27 (.mv (.t 5)),
 o0 28 (.idxA 1 (.t 26) (.t 27)),
 o0 29 (.load none (.t 28)),
 o0 30 (.bin .neq (.t 25) (.t 29)),
 o0 23 (.mv (.t 30))]) (.cond (.t 23) (.region [1, 4, 7, 8, 9] [o0 31 (.mv (.t 4)),
 o0 32 (.fieldA 3 (.t 6)),
 o0 33 (.load none (.t 32)),
 o0 34 (.bin .mul (.c (.int .i64 2)) (.t 33)),
 o0 35 (.bin .add (.c (.int .i64 1)) (.t 34)),
 o0 36 (.bin .add (.t 31) (.t 35)),
 o0 4 (.mv (.t 36))]) .skip))))))) (.region [1, 4, 7, 8, 9] [o0 37 (.bin .add (.t 9) (.c (.int .i64 1))),
 o0 9 (.mv (.t 37))]))))
def x639 : XFun :=
 ⟨[.tmp 4],(.seq (.region [0, 1, 4] [o0 4 (.mv (.c (.int .i64 0)))]) (.seq (.seq (.region [1, 4, 7, 8, 9] [o0 7 (.mv (.t 0)),
 o0 8 (.len (.t 7)),
 o0 9 (.mv (.c (.int .i64 0)))]) (.block 0 (.loop [1, 4, 7, 8, 9] x639L1))) (.seq (.region [4] [o0 38 (.mv (.t 4)),
 o0 4 (.mv (.t 38))]) .ret)))⟩
def x743 : XFun :=
 ⟨[.tmp 2],(.seq (.region [0] [o0 2 (.mv (.c (.slice none 0 0)))]) (.seq (.seq (.region [0, 4] [o0 3 (.mv (.t 0)),
 o0 4 (.eqNil false 0 (.t 3))]) (.cond (.t 4) (.seq (.region [2] [o0 2 (.mv (.c (.slice none 0 0)))]) .ret) .skip)) (.seq (.region [2] [o0 5 (.buildSlice 5 [(.int .u8 0),(.string .empty),(.slice none 0 0),(.int .i64 0),(.int .i64 0)] 0 []),
 o0 6 (.mv (.t 0)),
 o0 7 (.append 5 64 (.t 5) (.t 6)),
 o0 2 (.mv (.t 7))]) .ret)))⟩
def x740 : XFun :=
 ⟨[.tmp 2],(.seq (.region [0] [o0 2 (.mv (.c (.slice none 0 0)))]) (.seq (.region [2] [o0 3 (.mv (.t 0)),
 o0 4 (.mv (.t 0)),
 o0 5 (.len (.t 4)),
 o0 6 (.mv (.t 0)),
 o0 7 (.len (.t 6)),
 o0 8 (.slice3 2 (.t 3) (.t 5) (.t 7)),
 o0 2 (.mv (.t 8))]) .ret))⟩
def x742 : XFun :=
 ⟨[.tmp 2],(.seq (.region [0] [o0 2 (.mv (.c (.slice none 0 0)))]) (.seq (.seq (.region [0, 4] [o0 3 (.mv (.t 0)),
 o0 4 (.eqNil false 0 (.t 3))]) (.cond (.t 4) (.seq (.region [2] [o0 2 (.mv (.c (.slice none 0 0)))]) .ret) .skip)) (.seq (.region [2] [o0 5 (.buildSlice 2 [(.int .u8 0),(.int .i64 0)] 0 []),
 o0 6 (.mv (.t 0)),
 o0 7 (.append 2 16 (.t 5) (.t 6)),
 o0 2 (.mv (.t 7))]) .ret)))⟩
def x741 : XFun :=
 ⟨[.tmp 2],(.seq (.region [0] [o0 2 (.mv (.c (.slice none 0 0)))]) (.seq (.region [2] [o0 3 (.mv (.t 0)),
 o0 4 (.mv (.t 0)),
 o0 5 (.len (.t 4)),
 o0 6 (.mv (.t 0)),
 o0 7 (.len (.t 6)),
 o0 8 (.slice3 5 (.t 3) (.t 5) (.t 7)),
 o0 2 (.mv (.t 8))]) .ret))⟩
def x578 : XFun :=
 ⟨[.tmp 2],(.seq (.region [1] [o0 1 (.box 5 (.t 0)),
 o0 2 (.mv (.c (.int .i64 0)))]) (.seq (.seq (.region [1, 4] [o0 3 (.fieldA 0 (.t 1)),
 o0 4 (.load none (.t 3))]) (.block 0 (.seq (.region [1, 4, 5] [o0 6 (.bin .eql (.t 4) (.c (.int .u8 3))),
 o0 5 (.mv (.t 6))]) (.cond (.t 5) (.seq (.region [2] [o0 7 (.fieldA 1 (.t 1)),
 o0 8 (.load none (.t 7)),
 o0 9 (.lenS (.t 8)),
 o0 10 (.bin .add (.t 9) (.c (.int .i64 7))),
 o0 11 (.bin .quo (.t 10) (.c (.int .i64 8))),
 o0 12 (.bin .add (.c (.int .i64 2)) (.t 11)),
 o0 2 (.mv (.t 12))]) .ret) (.seq (.region [1, 4, 13] [o0 14 (.bin .eql (.t 4) (.c (.int .u8 6))),
 o0 13 (.mv (.t 14))]) (.cond (.t 13) (.seq (.region [2] [o0 15 (.fieldA 2 (.t 1)),
 o0 16 (.load none (.t 15)),
 o0 17 (.len (.t 16)),
 o0 18 (.bin .mul (.c (.int .i64 2)) (.t 17)),
 o0 19 (.bin .add (.c (.int .i64 2)) (.t 18)),
 o0 2 (.mv (.t 19))]) .ret) (.seq (.seq (.region [1, 4, 20] [o0 21 (.bin .eql (.t 4) (.c (.int .u8 4))),
 o0 20 (.mv (.t 21))]) (.cond (.t 20) .skip (.region [1, 20] [o0 22 (.bin .eql (.t 4) (.c (.int .u8 5))),
 o0 20 (.mv (.t 22))]))) (.cond (.t 20) (.seq (.region [1, 25] [o0 23 (.fieldA 3 (.t 1)),
 o0 24 (.load none (.t 23)),
 o0 25 (.bin .gtr (.t 24) (.c (.int .i64 0)))]) (.cond (.t 25) (.seq (.region [2] [o0 26 (.fieldA 3 (.t 1)),
 o0 27 (.load none (.t 26)),
 o0 28 (.bin .mul (.c (.int .i64 2)) (.t 27)),
 o0 29 (.bin .add (.c (.int .i64 4)) (.t 28)),
 o0 2 (.mv (.t 29))]) .ret) .skip)) .skip)))))))) (.seq (.region [2] [o0 2 (.mv (.c (.int .i64 3)))]) .ret)))⟩
def x219 : XFun :=
 ⟨[.cell 4 (some 4)],(.seq (.region [0, 1, 4] [o0 4 (.alloc [(.int .u8 0),(.int .i64 0),(.string .empty),(.bool false)])]) (.seq (.seq (.region [0, 1, 4, 7] [o0 5 (.mv (.t 1)),
 o0 6 (.lenS (.t 5)),
 o0 7 (.bin .gtr (.t 6) (.c (.int .i64 4096)))]) (.cond (.t 7) (.seq (.region [4] [o0 8 (.build [(.int .u8 0),(.int .i64 0),(.string .empty),(.bool false)] [(2, 1,(.c (.string ⟨#[103, 114, 101, 97, 116]⟩)))]),
 o2 (.store 4 (.t 4) (.t 8))]) .ret) .skip)) (.seq (.region [4] [o0 9 (.mv (.t 0)),
 o0 10 (.mv (.t 1)),
 o0 11 (.build [(.int .u8 0),(.string .empty),(.slice none 0 0),(.int .i64 0),(.int .i64 0)] [(0, 1,(.c (.int .u8 3))),(1, 1,(.t 10))]),
 o0 12 (.call .share 212 [(.t 9),(.t 11)]),
 o2 (.store 4 (.t 4) (.t 12))]) .ret)))⟩
def x207 : XFun :=
 ⟨[.tmp 2],(.seq (.region [1] [o0 1 (.box 2 (.t 0)),
 o0 2 (.mv (.c (.bool false)))]) (.seq (.region [2] [o0 3 (.fieldA 0 (.t 1)),
 o0 4 (.load none (.t 3)),
 o0 5 (.bin .neq (.t 4) (.c (.int .u8 7))),
 o0 2 (.mv (.t 5))]) .ret))⟩
def x212 : XFun :=
 ⟨[.cell 4 (some 4)],(.seq (.region [0, 3, 4] [o0 3 (.box 5 (.t 1)),
 o0 4 (.alloc [(.int .u8 0),(.int .i64 0),(.string .empty),(.bool false)])]) (.seq (.seq (.region [0, 3, 4, 9] [o0 5 (.mv (.t 0)),
 o0 6 (.load (some 5) (.t 3)),
 o0 7 (.call .view 578 [.t 6]),
 o0 8 (.call .share 218 [(.t 5),(.t 7)]),
 o0 9 (.un .not (.t 8))]) (.cond (.t 9) (.seq (.region [4] [o0 10 (.build [(.int .u8 0),(.int .i64 0),(.string .empty),(.bool false)] [(3, 1,(.c (.bool true)))]),
 o2 (.store 4 (.t 4) (.t 10))]) .ret) .skip)) (.seq (.region [0, 3, 4] [o0 11 (.mv (.t 0)),
 o0 12 (.mv (.t 0)),
 o0 13 (.nilCheck (.t 12)),
 o0 14 (.fieldA 0 (.t 13)),
 o0 15 (.load none (.t 14)),
 o0 16 (.load (some 5) (.t 3)),
 o0 17 (.buildSlice 5 [(.int .u8 0),(.string .empty),(.slice none 0 0),(.int .i64 0),(.int .i64 0)] 1 [(0, 5,(.t 16))]),
 o0 18 (.append 5 64 (.t 15) (.t 17)),
 o0 19 (.nilCheck (.t 11)),
 o0 20 (.fieldA 0 (.t 19)),
 o2 (.store 1 (.t 20) (.t 18))]) (.seq (.region [4] [o0 21 (.fieldA 0 (.t 3)),
 o0 22 (.load none (.t 21)),
 o0 23 (.mv (.t 0)),
 o0 24 (.nilCheck (.t 23)),
 o0 25 (.fieldA 0 (.t 24)),
 o0 26 (.load none (.t 25)),
 o0 27 (.len (.t 26)),
 o0 28 (.build [(.int .u8 0),(.int .i64 0)] [(0, 1,(.t 22)),(1, 1,(.t 27))]),
 o0 29 (.build [(.int .u8 0),(.int .i64 0),(.string .empty),(.bool false)] [(0, 2,(.t 28))]),
 o2 (.store 4 (.t 4) (.t 29))]) .ret))))⟩
def x580L1 : XCode :=
 (.seq (.region [5, 6, 7, 8] [o0 8 (.bin .lss (.t 7) (.t 6))]) (.seq (.cond (.t 8) .skip (.exit 0)) (.seq (.block 1 (.seq (.region [4, 5, 6, 7] [o0 9 (.idxA 2 (.t 5) (.t 7)),
 o0 10 (.load (some 2) (.t 9)),
 o0 4 (.alloc [(.int .u8 0),(.int .i64 0)]),
 o2 (.store 2 (.t 4) (.t 10))]) (.seq (.region [5, 6, 7, 13] [o0 11 (.fieldA 0 (.t 4)),
 o0 12 (.load none (.t 11)),
 o0 13 (.bin .eql (.t 12) (.c (.int .u8 7)))]) (.cond (.t 13) (.seq (.region [2] [o0 2 (.mv (.c (.bool true)))]) .ret) .skip)))) (.region [5, 6, 7] [o0 14 (.bin .add (.t 7) (.c (.int .i64 1))),
 o0 7 (.mv (.t 14))]))))
def x580 : XFun :=
 ⟨[.tmp 2],(.seq (.region [0] [o0 2 (.mv (.c (.bool false)))]) (.seq (.seq (.region [5, 6, 7] [o0 5 (.mv (.t 0)),
 o0 6 (.len (.t 5)),
 o0 7 (.mv (.c (.int .i64 0)))]) (.block 0 (.loop [5, 6, 7] x580L1))) (.seq (.region [2] [o0 2 (.mv (.c (.bool false)))]) .ret)))⟩
def x210 : XFun :=
 ⟨[.cell 8 (some 4)],(.seq (.region [0, 1, 6, 7, 8] [o0 6 (.box 2 (.t 2)),
 o0 7 (.box 2 (.t 3)),
 o0 8 (.alloc [(.int .u8 0),(.int .i64 0),(.string .empty),(.bool false)])]) (.seq (.block 0 (.seq (.region [0, 1, 6, 7, 8, 13] [o0 14 (.mv (.t 1)),
 o0 15 (.bin .eql (.t 14) (.c (.int .u8 8))),
 o0 16 (.mv (.t 15)),
 o1 17 16 false (.mv (.t 1)),
 o1 18 16 false (.bin .eql (.t 17) (.c (.int .u8 9))),
 o0 19 (.pick (.t 16) (.c (.bool true)) (.t 18)),
 o0 13 (.mv (.t 19))]) (.cond (.t 13) (.seq (.region [8] [o0 20 (.mv (.t 0)),
 o0 21 (.load (some 2) (.t 6)),
 o0 22 (.load (some 2) (.t 7)),
 o0 23 (.call .peek 216 [(.t 20),(.t 21),(.t 22)]),
 o0 24 (.mv (.t 1)),
 o0 25 (.bin .eql (.t 24) (.c (.int .u8 8))),
 o0 26 (.binB .eql (.t 23) (.t 25)),
 o0 27 (.call .view 588 [.t 26]),
 o0 28 (.build [(.int .u8 0),(.int .i64 0),(.string .empty),(.bool false)] [(0, 2,(.t 27))]),
 o2 (.store 4 (.t 8) (.t 28))]) .ret) (.seq (.region [0, 1, 6, 7, 8, 29] [o0 30 (.fieldA 0 (.t 6)),
 o0 31 (.load none (.t 30)),
 o0 32 (.bin .eql (.t 31) (.c (.int .u8 2))),
 o0 33 (.mv (.t 32)),
 o1 34 33 true (.fieldA 0 (.t 7)),
 o1 35 33 true (.load none (.t 34)),
 o1 36 33 true (.bin .eql (.t 35) (.c (.int .u8 2))),
 o0 37 (.pick (.t 33) (.t 36) (.c (.bool false))),
 o0 29 (.mv (.t 37))]) (.cond (.t 29) (.seq (.region [8, 9, 10] [o0 39 (.mv (.t 1)),
 o0 40 (.fieldA 1 (.t 6)),
 o0 41 (.load none (.t 40)),
 o0 42 (.fieldA 1 (.t 7)),
 o0 43 (.load none (.t 42)),
 o0 44 (.call .view 579 [(.t 39),(.t 41),(.t 43)]),
 o0 38 (.mv (.t 44)),
 o0 45 (.extract (.t 38) 0),
 o0 46 (.extract (.t 38) 1),
 o0 9 (.alloc [(.int .u8 0),(.int .i64 0)]),
 o2 (.store 2 (.t 9) (.t 45)),
 o0 10 (.mv (.t 46))]) (.seq (.region [8] [o0 47 (.load (some 2) (.t 9)),
 o0 48 (.mv (.t 10)),
 o0 49 (.build [(.int .u8 0),(.int .i64 0),(.string .empty),(.bool false)] [(0, 2,(.t 47)),(2, 1,(.t 48))]),
 o2 (.store 4 (.t 8) (.t 49))]) .ret)) (.seq (.region [0, 1, 6, 7, 8, 50] [o0 51 (.fieldA 0 (.t 6)),
 o0 52 (.load none (.t 51)),
 o0 53 (.bin .neq (.t 52) (.c (.int .u8 3))),
 o0 54 (.mv (.t 53)),
 o1 55 54 false (.fieldA 0 (.t 7)),
 o1 56 54 false (.load none (.t 55)),
 o1 57 54 false (.bin .neq (.t 56) (.c (.int .u8 3))),
 o0 58 (.pick (.t 54) (.c (.bool true)) (.t 57)),
 o0 50 (.mv (.t 58))]) (.cond (.t 50) (.seq (.region [8] [o0 59 (.build [(.int .u8 0),(.int .i64 0),(.string .empty),(.bool false)] [(2, 1,(.c (.string ⟨#[107, 105, 110, 100]⟩)))]),
 o2 (.store 4 (.t 8) (.t 59))]) .ret) .skip))))))) (.seq (.region [0, 1, 8, 11, 12] [o0 60 (.mv (.t 0)),
 o0 61 (.load (some 2) (.t 6)),
 o0 62 (.call .look 213 [(.t 60),(.t 61)]),
 o0 63 (.nilCheck (.t 62)),
 o0 64 (.fieldA 1 (.t 63)),
 o0 65 (.load none (.t 64)),
 o0 66 (.mv (.t 0)),
 o0 67 (.load (some 2) (.t 7)),
 o0 68 (.call .look 213 [(.t 66),(.t 67)]),
 o0 69 (.nilCheck (.t 68)),
 o0 70 (.fieldA 1 (.t 69)),
 o0 71 (.load none (.t 70)),
 o0 11 (.mv (.t 65)),
 o0 12 (.mv (.t 71))]) (.seq (.seq (.region [0, 8, 11, 12, 72] [o0 72 (.mv (.t 1))]) (.block 1 (.seq (.region [0, 8, 11, 12, 72, 73] [o0 74 (.bin .eql (.t 72) (.c (.int .u8 1))),
 o0 73 (.mv (.t 74))]) (.cond (.t 73) (.seq (.region [8] [o0 75 (.mv (.t 0)),
 o0 76 (.mv (.t 11)),
 o0 77 (.mv (.t 12)),
 o0 78 (.bin .add (.t 76) (.t 77)),
 o0 79 (.call .share 219 [(.t 75),(.t 78)]),
 o2 (.store 4 (.t 8) (.t 79))]) .ret) (.seq (.region [8, 11, 12, 72, 80] [o0 81 (.bin .eql (.t 72) (.c (.int .u8 6))),
 o0 80 (.mv (.t 81))]) (.cond (.t 80) (.seq (.region [8] [o0 82 (.mv (.t 11)),
 o0 83 (.mv (.t 12)),
 o0 84 (.bin .lss (.t 82) (.t 83)),
 o0 85 (.call .view 588 [.t 84]),
 o0 86 (.build [(.int .u8 0),(.int .i64 0),(.string .empty),(.bool false)] [(0, 2,(.t 85))]),
 o2 (.store 4 (.t 8) (.t 86))]) .ret) (.seq (.region [8, 11, 12, 87] [o0 88 (.bin .eql (.t 72) (.c (.int .u8 7))),
 o0 87 (.mv (.t 88))]) (.cond (.t 87) (.seq (.region [8] [o0 89 (.mv (.t 11)),
 o0 90 (.mv (.t 12)),
 o0 91 (.bin .leq (.t 89) (.t 90)),
 o0 92 (.call .view 588 [.t 91]),
 o0 93 (.build [(.int .u8 0),(.int .i64 0),(.string .empty),(.bool false)] [(0, 2,(.t 92))]),
 o2 (.store 4 (.t 8) (.t 93))]) .ret) .skip)))))))) (.seq (.region [8] [o0 94 (.build [(.int .u8 0),(.int .i64 0),(.string .empty),(.bool false)] [(2, 1,(.c (.string ⟨#[107, 105, 110, 100]⟩)))]),
 o2 (.store 4 (.t 8) (.t 94))]) .ret)))))⟩
def x588 : XFun :=
 ⟨[.cell 2 (some 2)],(.seq (.region [0, 2] [o0 2 (.alloc [(.int .u8 0),(.int .i64 0)])]) (.seq (.region [0, 2, 3] [o0 4 (.build [(.int .u8 0),(.int .i64 0)] [(0, 1,(.c (.int .u8 1)))]),
 o0 3 (.alloc [(.int .u8 0),(.int .i64 0)]),
 o2 (.store 2 (.t 3) (.t 4))]) (.seq (.seq (.region [2, 3, 5] [o0 5 (.mv (.t 0))]) (.cond (.t 5) (.region [2, 3] [o0 6 (.fieldA 1 (.t 3)),
 o2 (.store 1 (.t 6) (.c (.int .i64 1)))]) .skip)) (.seq (.region [2] [o0 7 (.load (some 2) (.t 3)),
 o2 (.store 2 (.t 2) (.t 7))]) .ret))))⟩
def x217 : XFun :=
 ⟨[.cell 4 (some 4)],(.seq (.region [0, 3, 4] [o0 3 (.box 2 (.t 1)),
 o0 4 (.alloc [(.int .u8 0),(.int .i64 0),(.string .empty),(.bool false)])]) (.seq (.region [0, 3, 4] [o0 5 (.mv (.c (.int .i64 0)))]) (.seq (.seq (.region [0, 3, 4, 7] [o0 6 (.fieldA 0 (.t 3)),
 o0 7 (.load none (.t 6))]) (.block 0 (.seq (.region [0, 3, 4, 7, 9] [o0 10 (.bin .eql (.t 7) (.c (.int .u8 3))),
 o0 9 (.mv (.t 10))]) (.cond (.t 9) (.region [4, 5] [o0 11 (.mv (.t 0)),
 o0 12 (.load (some 2) (.t 3)),
 o0 13 (.call .look 213 [(.t 11),(.t 12)]),
 o0 14 (.nilCheck (.t 13)),
 o0 15 (.fieldA 1 (.t 14)),
 o0 16 (.load none (.t 15)),
 o0 17 (.lenS (.t 16)),
 o0 5 (.mv (.t 17))]) (.seq (.region [0, 3, 4, 7, 18] [o0 19 (.bin .eql (.t 7) (.c (.int .u8 4))),
 o0 18 (.mv (.t 19))]) (.cond (.t 18) (.region [4, 5] [o0 20 (.mv (.t 0)),
 o0 21 (.load (some 2) (.t 3)),
 o0 22 (.call .look 213 [(.t 20),(.t 21)]),
 o0 23 (.nilCheck (.t 22)),
 o0 24 (.fieldA 2 (.t 23)),
 o0 25 (.load none (.t 24)),
 o0 26 (.len (.t 25)),
 o0 5 (.mv (.t 26))]) (.seq (.region [0, 3, 4, 27] [o0 28 (.bin .eql (.t 7) (.c (.int .u8 5))),
 o0 27 (.mv (.t 28))]) (.cond (.t 27) (.region [4, 5] [o0 29 (.mv (.t 0)),
 o0 30 (.load (some 2) (.t 3)),
 o0 31 (.call .look 213 [(.t 29),(.t 30)]),
 o0 32 (.nilCheck (.t 31)),
 o0 33 (.fieldA 2 (.t 32)),
 o0 34 (.load none (.t 33)),
 o0 35 (.len (.t 34)),
 o0 36 (.bin .quo (.t 35) (.c (.int .i64 2))),
 o0 5 (.mv (.t 36))]) (.seq (.region [4] [o0 8 (.build [(.int .u8 0),(.int .i64 0),(.string .empty),(.bool false)] [(2, 1,(.c (.string ⟨#[107, 105, 110, 100]⟩)))]),
 o2 (.store 4 (.t 4) (.t 8))]) .ret))))))))) (.seq (.region [4] [o0 37 (.mv (.t 5)),
 o0 38 (.build [(.int .u8 0),(.int .i64 0)] [(0, 1,(.c (.int .u8 2))),(1, 1,(.t 37))]),
 o0 39 (.build [(.int .u8 0),(.int .i64 0),(.string .empty),(.bool false)] [(0, 2,(.t 38))]),
 o2 (.store 4 (.t 4) (.t 39))]) .ret))))⟩
def x214L1 : XCode :=
 (.seq (.seq (.region [0, 1, 4, 5, 6, 22] [o0 19 (.mv (.t 6)),
 o0 20 (.mv (.t 1)),
 o0 21 (.len (.t 20)),
 o0 22 (.bin .lss (.t 19) (.t 21))]) (.cond (.t 22) .skip (.exit 1))) (.seq (.block 2 (.seq (.region [0, 1, 4, 5, 6, 7] [o0 25 (.mv (.t 0)),
 o0 26 (.mv (.t 5)),
 o0 27 (.mv (.t 1)),
 o0 28 (.mv (.t 6)),
 o0 29 (.idxA 2 (.t 27) (.t 28)),
 o0 30 (.load (some 2) (.t 29)),
 o0 31 (.call .peek 209 [(.t 25),(.t 26),(.t 30)]),
 o0 7 (.mv (.t 31))]) (.seq (.region [0, 1, 4, 5, 6, 7, 33] [o0 32 (.mv (.t 7)),
 o0 33 (.bin .geq (.t 32) (.c (.int .i64 0)))]) (.cond (.t 33) (.region [0, 1, 4, 5, 6] [o0 34 (.mv (.t 5)),
 o0 35 (.mv (.t 7)),
 o0 36 (.bin .add (.t 35) (.c (.int .i64 1))),
 o0 37 (.mv (.t 1)),
 o0 38 (.mv (.t 6)),
 o0 39 (.bin .add (.t 38) (.c (.int .i64 1))),
 o0 40 (.idxA 2 (.t 37) (.t 39)),
 o0 41 (.load (some 2) (.t 40)),
 o0 42 (.idxA 2 (.t 34) (.t 36)),
 o2 (.store 2 (.t 42) (.t 41))]) (.region [0, 1, 4, 5, 6] [o0 43 (.mv (.t 5)),
 o0 44 (.mv (.t 1)),
 o0 45 (.mv (.t 6)),
 o0 46 (.idxA 2 (.t 44) (.t 45)),
 o0 47 (.load (some 2) (.t 46)),
 o0 48 (.mv (.t 1)),
 o0 49 (.mv (.t 6)),
 o0 50 (.bin .add (.t 49) (.c (.int .i64 1))),
 o0 51 (.idxA 2 (.t 48) (.t 50)),
 o0 52 (.load (some 2) (.t 51)),
 o0 53 (.buildSlice 2 [(.int .u8 0),(.int .i64 0)] 2 [(0, 2,(.t 47)),(2, 2,(.t 52))]),
 o0 54 (.append 2 16 (.t 43) (.t 53)),
 o0 5 (.mv (.t 54))]))))) (.region [0, 1, 4, 5, 6] [o0 23 (.mv (.t 6)),
 o0 24 (.bin .add (.t 23) (.c (.int .i64 2))),
 o0 6 (.mv (.t 24))])))
def x214 : XFun :=
 ⟨[.cell 4 (some 4)],(.seq (.region [0, 1, 4] [o0 4 (.alloc [(.int .u8 0),(.int .i64 0),(.string .empty),(.bool false)])]) (.seq (.block 0 (.seq (.region [0, 1, 4, 8] [o0 9 (.mv (.t 1)),
 o0 10 (.len (.t 9)),
 o0 11 (.bin .rem (.t 10) (.c (.int .i64 2))),
 o0 12 (.bin .neq (.t 11) (.c (.int .i64 0))),
 o0 8 (.mv (.t 12))]) (.cond (.t 8) (.seq (.region [4] [o0 13 (.build [(.int .u8 0),(.int .i64 0),(.string .empty),(.bool false)] [(2, 1,(.c (.string ⟨#[107, 105, 110, 100]⟩)))]),
 o2 (.store 4 (.t 4) (.t 13))]) .ret) (.seq (.region [0, 1, 4, 14] [o0 15 (.mv (.t 1)),
 o0 16 (.len (.t 15)),
 o0 17 (.bin .gtr (.t 16) (.c (.int .i64 131072))),
 o0 14 (.mv (.t 17))]) (.cond (.t 14) (.seq (.region [4] [o0 18 (.build [(.int .u8 0),(.int .i64 0),(.string .empty),(.bool false)] [(2, 1,(.c (.string ⟨#[105, 116, 101, 109, 115]⟩)))]),
 o2 (.store 4 (.t 4) (.t 18))]) .ret) .skip))))) (.seq (.region [0, 1, 4, 5] [o0 5 (.mv (.c (.slice none 0 0)))]) (.seq (.seq (.region [0, 1, 4, 5, 6] [o0 6 (.mv (.c (.int .i64 0)))]) (.block 1 (.loop [0, 1, 4, 5, 6] x214L1))) (.seq (.region [4] [o0 55 (.mv (.t 0)),
 o0 56 (.mv (.t 5)),
 o0 57 (.mv (.t 1)),
 o0 58 (.len (.t 57)),
 o0 59 (.build [(.int .u8 0),(.string .empty),(.slice none 0 0),(.int .i64 0),(.int .i64 0)] [(0, 1,(.c (.int .u8 5))),(2, 1,(.t 56)),(3, 1,(.t 58))]),
 o0 60 (.call .share 212 [(.t 55),(.t 59)]),
 o2 (.store 4 (.t 4) (.t 60))]) .ret)))))⟩
def x211 : XFun :=
 ⟨[.cell 6 (some 4)],(.seq (.region [0, 4, 5, 6] [o0 4 (.box 2 (.t 1)),
 o0 5 (.box 2 (.t 2)),
 o0 6 (.alloc [(.int .u8 0),(.int .i64 0),(.string .empty),(.bool false)])]) (.seq (.seq (.region [0, 4, 5, 6, 12] [o0 9 (.load (some 2) (.t 4)),
 o0 10 (.load (some 2) (.t 5)),
 o0 11 (.call .view 581 [(.t 9),(.t 10)]),
 o0 12 (.un .not (.t 11))]) (.cond (.t 12) (.seq (.region [6] [o0 13 (.build [(.int .u8 0),(.int .i64 0),(.string .empty),(.bool false)] [(2, 1,(.c (.string ⟨#[107, 105, 110, 100]⟩)))]),
 o2 (.store 4 (.t 6) (.t 13))]) .ret) .skip)) (.seq (.region [0, 4, 5, 6, 7] [o0 14 (.mv (.t 0)),
 o0 15 (.load (some 2) (.t 4)),
 o0 16 (.call .look 213 [(.t 14),(.t 15)]),
 o0 7 (.mv (.t 16))]) (.seq (.seq (.region [0, 4, 5, 6, 7, 19] [o0 17 (.fieldA 0 (.t 4)),
 o0 18 (.load none (.t 17)),
 o0 19 (.bin .eql (.t 18) (.c (.int .u8 5)))]) (.cond (.t 19) (.seq (.seq (.region [6, 7, 8] [o0 20 (.mv (.t 0)),
 o0 21 (.mv (.t 7)),
 o0 22 (.nilCheck (.t 21)),
 o0 23 (.fieldA 2 (.t 22)),
 o0 24 (.load none (.t 23)),
 o0 25 (.load (some 2) (.t 5)),
 o0 26 (.call .peek 209 [(.t 20),(.t 24),(.t 25)]),
 o0 8 (.mv (.t 26))]) (.seq (.region [6, 7, 8, 28] [o0 27 (.mv (.t 8)),
 o0 28 (.bin .geq (.t 27) (.c (.int .i64 0)))]) (.cond (.t 28) (.seq (.region [6] [o0 29 (.mv (.t 7)),
 o0 30 (.nilCheck (.t 29)),
 o0 31 (.fieldA 2 (.t 30)),
 o0 32 (.load none (.t 31)),
 o0 33 (.mv (.t 8)),
 o0 34 (.bin .add (.t 33) (.c (.int .i64 1))),
 o0 35 (.idxA 2 (.t 32) (.t 34)),
 o0 36 (.load (some 2) (.t 35)),
 o0 37 (.build [(.int .u8 0),(.int .i64 0),(.string .empty),(.bool false)] [(0, 2,(.t 36))]),
 o2 (.store 4 (.t 6) (.t 37))]) .ret) .skip))) (.seq (.region [6] [o0 38 (.build [(.int .u8 0),(.int .i64 0),(.string .empty),(.bool false)] []),
 o2 (.store 4 (.t 6) (.t 38))]) .ret)) .skip)) (.seq (.seq (.region [0, 4, 5, 6, 7, 57] [o0 39 (.fieldA 1 (.t 5)),
 o0 40 (.load none (.t 39)),
 o0 41 (.bin .lss (.t 40) (.c (.int .i64 0))),
 o0 42 (.mv (.t 41)),
 o1 43 42 false (.fieldA 1 (.t 5)),
 o1 44 42 false (.load none (.t 43)),
 o1 45 42 false (.mv (.t 7)),
 o1 46 42 false (.nilCheck (.t 45)),
 o1 47 42 false (.fieldA 2 (.t 46)),
 o1 48 42 false (.load none (.t 47)),
 o1 49 42 false (.len (.t 48)),
 o1 50 42 false (.mv (.t 7)),
 o1 51 42 false (.nilCheck (.t 50)),
 o1 52 42 false (.fieldA 1 (.t 51)),
 o1 53 42 false (.load none (.t 52)),
 o1 54 42 false (.lenS (.t 53)),
 o1 55 42 false (.bin .add (.t 49) (.t 54)),
 o1 56 42 false (.bin .geq (.t 44) (.t 55)),
 o0 57 (.pick (.t 42) (.c (.bool true)) (.t 56))]) (.cond (.t 57) (.seq (.region [6] [o0 58 (.build [(.int .u8 0),(.int .i64 0),(.string .empty),(.bool false)] [(2, 1,(.c (.string ⟨#[98, 111, 117, 110, 100, 115]⟩)))]),
 o2 (.store 4 (.t 6) (.t 58))]) .ret) .skip)) (.seq (.seq (.region [0, 5, 6, 7, 61] [o0 59 (.fieldA 0 (.t 4)),
 o0 60 (.load none (.t 59)),
 o0 61 (.bin .eql (.t 60) (.c (.int .u8 3)))]) (.cond (.t 61) (.seq (.region [6] [o0 62 (.mv (.t 0)),
 o0 63 (.mv (.t 7)),
 o0 64 (.nilCheck (.t 63)),
 o0 65 (.fieldA 1 (.t 64)),
 o0 66 (.load none (.t 65)),
 o0 67 (.fieldA 1 (.t 5)),
 o0 68 (.load none (.t 67)),
 o0 69 (.fieldA 1 (.t 5)),
 o0 70 (.load none (.t 69)),
 o0 71 (.bin .add (.t 70) (.c (.int .i64 1))),
 o0 72 (.sliceS (.t 66) (some (.t 68)) (some (.t 71))),
 o0 73 (.call .share 219 [(.t 62),(.t 72)]),
 o2 (.store 4 (.t 6) (.t 73))]) .ret) .skip)) (.seq (.region [6] [o0 74 (.mv (.t 7)),
 o0 75 (.nilCheck (.t 74)),
 o0 76 (.fieldA 2 (.t 75)),
 o0 77 (.load none (.t 76)),
 o0 78 (.fieldA 1 (.t 5)),
 o0 79 (.load none (.t 78)),
 o0 80 (.idxA 2 (.t 77) (.t 79)),
 o0 81 (.load (some 2) (.t 80)),
 o0 82 (.build [(.int .u8 0),(.int .i64 0),(.string .empty),(.bool false)] [(0, 2,(.t 81))]),
 o2 (.store 4 (.t 6) (.t 82))]) .ret)))))))⟩
def x215 : XFun :=
 ⟨[.cell 8 (some 4)],(.seq (.region [0, 5, 6, 7, 8] [o0 5 (.box 2 (.t 1)),
 o0 6 (.box 2 (.t 2)),
 o0 7 (.box 2 (.t 3)),
 o0 8 (.alloc [(.int .u8 0),(.int .i64 0),(.string .empty),(.bool false)])]) (.seq (.seq (.region [0, 5, 6, 7, 8, 23] [o0 15 (.load (some 2) (.t 5)),
 o0 16 (.load (some 2) (.t 6)),
 o0 17 (.call .view 581 [(.t 15),(.t 16)]),
 o0 18 (.un .not (.t 17)),
 o0 19 (.mv (.t 18)),
 o1 20 19 false (.fieldA 0 (.t 5)),
 o1 21 19 false (.load none (.t 20)),
 o1 22 19 false (.bin .eql (.t 21) (.c (.int .u8 3))),
 o0 23 (.pick (.t 19) (.c (.bool true)) (.t 22))]) (.cond (.t 23) (.seq (.region [8] [o0 24 (.build [(.int .u8 0),(.int .i64 0),(.string .empty),(.bool false)] [(2, 1,(.c (.string ⟨#[107, 105, 110, 100]⟩)))]),
 o2 (.store 4 (.t 8) (.t 24))]) .ret) .skip)) (.seq (.region [0, 5, 6, 7, 8, 9] [o0 25 (.mv (.t 0)),
 o0 26 (.load (some 2) (.t 5)),
 o0 27 (.call .look 213 [(.t 25),(.t 26)]),
 o0 9 (.mv (.t 27))]) (.seq (.region [0, 5, 6, 7, 8, 9, 10, 11, 12] [o0 28 (.mv (.t 9)),
 o0 29 (.nilCheck (.t 28)),
 o0 30 (.fieldA 2 (.t 29)),
 o0 31 (.load none (.t 30)),
 o0 32 (.len (.t 31)),
 o0 33 (.fieldA 1 (.t 6)),
 o0 34 (.load none (.t 33)),
 o0 10 (.mv (.t 32)),
 o0 11 (.mv (.c (.int .i64 1))),
 o0 12 (.mv (.t 34))]) (.seq (.seq (.region [0, 6, 7, 8, 9, 10, 11, 12, 37] [o0 35 (.fieldA 0 (.t 5)),
 o0 36 (.load none (.t 35)),
 o0 37 (.bin .eql (.t 36) (.c (.int .u8 5)))]) (.cond (.t 37) (.seq (.region [0, 6, 7, 8, 9, 10, 11, 12] [o0 38 (.mv (.t 10)),
 o0 11 (.mv (.c (.int .i64 2))),
 o0 12 (.mv (.t 38))]) (.seq (.region [0, 6, 7, 8, 9, 10, 11, 12, 13] [o0 39 (.mv (.t 0)),
 o0 40 (.mv (.t 9)),
 o0 41 (.nilCheck (.t 40)),
 o0 42 (.fieldA 2 (.t 41)),
 o0 43 (.load none (.t 42)),
 o0 44 (.load (some 2) (.t 6)),
 o0 45 (.call .peek 209 [(.t 39),(.t 43),(.t 44)]),
 o0 13 (.mv (.t 45))]) (.seq (.region [0, 6, 7, 8, 9, 10, 11, 12, 13, 47] [o0 46 (.mv (.t 13)),
 o0 47 (.bin .geq (.t 46) (.c (.int .i64 0)))]) (.cond (.t 47) (.region [0, 6, 7, 8, 9, 10, 11, 12] [o0 48 (.mv (.t 13)),
 o0 49 (.bin .add (.t 48) (.c (.int .i64 1))),
 o0 12 (.mv (.t 49))]) .skip)))) .skip)) (.seq (.block 0 (.seq (.region [0, 6, 7, 8, 9, 10, 11, 12, 50] [o0 51 (.mv (.t 12)),
 o0 52 (.bin .lss (.t 51) (.c (.int .i64 0))),
 o0 53 (.mv (.t 52)),
 o1 54 53 false (.mv (.t 12)),
 o1 55 53 false (.mv (.t 10)),
 o1 56 53 false (.bin .gtr (.t 54) (.t 55)),
 o0 57 (.pick (.t 53) (.c (.bool true)) (.t 56)),
 o0 50 (.mv (.t 57))]) (.cond (.t 50) (.seq (.region [8] [o0 58 (.build [(.int .u8 0),(.int .i64 0),(.string .empty),(.bool false)] [(2, 1,(.c (.string ⟨#[98, 111, 117, 110, 100, 115]⟩)))]),
 o2 (.store 4 (.t 8) (.t 58))]) .ret) (.seq (.region [0, 6, 7, 8, 9, 10, 11, 12, 59] [o0 60 (.mv (.t 12)),
 o0 61 (.mv (.t 10)),
 o0 62 (.bin .lss (.t 60) (.t 61)),
 o0 59 (.mv (.t 62))]) (.cond (.t 59) (.seq (.region [8] [o0 63 (.mv (.t 9)),
 o0 64 (.nilCheck (.t 63)),
 o0 65 (.fieldA 2 (.t 64)),
 o0 66 (.load none (.t 65)),
 o0 67 (.mv (.t 12)),
 o0 68 (.load (some 2) (.t 7)),
 o0 69 (.idxA 2 (.t 66) (.t 67)),
 o2 (.store 2 (.t 69) (.t 68))]) (.seq (.region [8] [o0 70 (.build [(.int .u8 0),(.int .i64 0),(.string .empty),(.bool false)] []),
 o2 (.store 4 (.t 8) (.t 70))]) .ret)) (.seq (.region [0, 6, 7, 8, 9, 10, 11, 71] [o0 72 (.mv (.t 10)),
 o0 73 (.mv (.t 11)),
 o0 74 (.bin .mul (.t 73) (.c (.int .i64 65536))),
 o0 75 (.bin .geq (.t 72) (.t 74)),
 o0 71 (.mv (.t 75))]) (.cond (.t 71) (.seq (.region [8] [o0 76 (.build [(.int .u8 0),(.int .i64 0),(.string .empty),(.bool false)] [(2, 1,(.c (.string ⟨#[105, 116, 101, 109, 115]⟩)))]),
 o2 (.store 4 (.t 8) (.t 76))]) .ret) .skip))))))) (.seq (.seq (.region [0, 6, 7, 8, 9, 10, 11, 14] [o0 77 (.mv (.t 9)),
 o0 78 (.nilCheck (.t 77)),
 o0 79 (.fieldA 3 (.t 78)),
 o0 80 (.load none (.t 79)),
 o0 14 (.mv (.t 80))]) (.seq (.region [0, 6, 7, 8, 9, 11, 14, 85] [o0 81 (.mv (.t 14)),
 o0 82 (.mv (.t 10)),
 o0 83 (.mv (.t 11)),
 o0 84 (.bin .add (.t 82) (.t 83)),
 o0 85 (.bin .lss (.t 81) (.t 84))]) (.cond (.t 85) (.seq (.region [0, 6, 7, 8, 9, 11, 14] [o0 86 (.mv (.t 11)),
 o0 87 (.bin .mul (.c (.int .i64 4)) (.t 86)),
 o0 88 (.mv (.t 14)),
 o0 89 (.bin .mul (.c (.int .i64 2)) (.t 88)),
 o0 90 (.minmax false (.t 87) (.t 89)),
 o0 14 (.mv (.t 90))]) (.seq (.seq (.region [6, 7, 8, 9, 11, 14, 96] [o0 91 (.mv (.t 0)),
 o0 92 (.mv (.t 14)),
 o0 93 (.bin .mul (.c (.int .i64 2)) (.t 92)),
 o0 94 (.bin .add (.c (.int .i64 1)) (.t 93)),
 o0 95 (.call .share 218 [(.t 91),(.t 94)]),
 o0 96 (.un .not (.t 95))]) (.cond (.t 96) (.seq (.region [8] [o0 97 (.build [(.int .u8 0),(.int .i64 0),(.string .empty),(.bool false)] [(3, 1,(.c (.bool true)))]),
 o2 (.store 4 (.t 8) (.t 97))]) .ret) .skip)) (.region [6, 7, 8, 9, 11] [o0 98 (.mv (.t 9)),
 o0 99 (.mv (.t 14)),
 o0 100 (.nilCheck (.t 98)),
 o0 101 (.fieldA 3 (.t 100)),
 o2 (.store 1 (.t 101) (.t 99))]))) .skip))) (.seq (.seq (.region [6, 7, 8, 9, 103] [o0 102 (.mv (.t 11)),
 o0 103 (.bin .eql (.t 102) (.c (.int .i64 2)))]) (.cond (.t 103) (.region [7, 8, 9] [o0 104 (.mv (.t 9)),
 o0 105 (.mv (.t 9)),
 o0 106 (.nilCheck (.t 105)),
 o0 107 (.fieldA 2 (.t 106)),
 o0 108 (.load none (.t 107)),
 o0 109 (.load (some 2) (.t 6)),
 o0 110 (.buildSlice 2 [(.int .u8 0),(.int .i64 0)] 1 [(0, 2,(.t 109))]),
 o0 111 (.append 2 16 (.t 108) (.t 110)),
 o0 112 (.nilCheck (.t 104)),
 o0 113 (.fieldA 2 (.t 112)),
 o2 (.store 1 (.t 113) (.t 111))]) .skip)) (.seq (.region [8] [o0 114 (.mv (.t 9)),
 o0 115 (.mv (.t 9)),
 o0 116 (.nilCheck (.t 115)),
 o0 117 (.fieldA 2 (.t 116)),
 o0 118 (.load none (.t 117)),
 o0 119 (.load (some 2) (.t 7)),
 o0 120 (.buildSlice 2 [(.int .u8 0),(.int .i64 0)] 1 [(0, 2,(.t 119))]),
 o0 121 (.append 2 16 (.t 118) (.t 120)),
 o0 122 (.nilCheck (.t 114)),
 o0 123 (.fieldA 2 (.t 122)),
 o2 (.store 1 (.t 123) (.t 121))]) (.seq (.region [8] [o0 124 (.build [(.int .u8 0),(.int .i64 0),(.string .empty),(.bool false)] []),
 o2 (.store 4 (.t 8) (.t 124))]) .ret))))))))))⟩
def x218 : XFun :=
 ⟨[.tmp 4],(.seq (.region [0, 1] [o0 4 (.mv (.c (.bool false)))]) (.seq (.seq (.region [0, 1, 15] [o0 5 (.mv (.t 0)),
 o0 6 (.nilCheck (.t 5)),
 o0 7 (.fieldA 2 (.t 6)),
 o0 8 (.load none (.t 7)),
 o0 9 (.mv (.t 1)),
 o0 10 (.bin .add (.t 8) (.t 9)),
 o0 11 (.mv (.t 0)),
 o0 12 (.nilCheck (.t 11)),
 o0 13 (.fieldA 1 (.t 12)),
 o0 14 (.load none (.t 13)),
 o0 15 (.bin .gtr (.t 10) (.t 14))]) (.cond (.t 15) (.seq (.region [4] [o0 4 (.mv (.c (.bool false)))]) .ret) .skip)) (.seq (.region [] [o0 16 (.mv (.t 0)),
 o0 17 (.nilCheck (.t 16)),
 o0 18 (.fieldA 2 (.t 17)),
 o0 19 (.load none (.t 18)),
 o0 20 (.mv (.t 1)),
 o0 21 (.bin .add (.t 19) (.t 20)),
 o0 22 (.nilCheck (.t 16)),
 o0 23 (.fieldA 2 (.t 22)),
 o2 (.store 1 (.t 23) (.t 21))]) (.seq (.region [4] [o0 4 (.mv (.c (.bool true)))]) .ret))))⟩
def x216 : XFun :=
 ⟨[.tmp 6],(.seq (.region [0, 4, 5] [o0 4 (.box 2 (.t 1)),
 o0 5 (.box 2 (.t 2)),
 o0 6 (.mv (.c (.bool false)))]) (.seq (.block 0 (.seq (.region [0, 4, 5, 7] [o0 8 (.fieldA 0 (.t 4)),
 o0 9 (.load none (.t 8)),
 o0 10 (.fieldA 0 (.t 5)),
 o0 11 (.load none (.t 10)),
 o0 12 (.bin .neq (.t 9) (.t 11)),
 o0 7 (.mv (.t 12))]) (.cond (.t 7) (.seq (.region [6] [o0 6 (.mv (.c (.bool false)))]) .ret) (.seq (.region [0, 4, 5, 13] [o0 14 (.fieldA 0 (.t 4)),
 o0 15 (.load none (.t 14)),
 o0 16 (.bin .eql (.t 15) (.c (.int .u8 3))),
 o0 13 (.mv (.t 16))]) (.cond (.t 13) (.seq (.region [6] [o0 17 (.mv (.t 0)),
 o0 18 (.load (some 2) (.t 4)),
 o0 19 (.call .look 213 [(.t 17),(.t 18)]),
 o0 20 (.nilCheck (.t 19)),
 o0 21 (.fieldA 1 (.t 20)),
 o0 22 (.load none (.t 21)),
 o0 23 (.mv (.t 0)),
 o0 24 (.load (some 2) (.t 5)),
 o0 25 (.call .look 213 [(.t 23),(.t 24)]),
 o0 26 (.nilCheck (.t 25)),
 o0 27 (.fieldA 1 (.t 26)),
 o0 28 (.load none (.t 27)),
 o0 29 (.bin .eql (.t 22) (.t 28)),
 o0 6 (.mv (.t 29))]) .ret) .skip))))) (.seq (.region [6] [o0 30 (.fieldA 0 (.t 4)),
 o0 31 (.load none (.t 30)),
 o0 32 (.bin .eql (.t 31) (.c (.int .u8 0))),
 o0 33 (.mv (.t 32)),
 o1 34 33 false (.fieldA 1 (.t 4)),
 o1 35 33 false (.load none (.t 34)),
 o1 36 33 false (.fieldA 1 (.t 5)),
 o1 37 33 false (.load none (.t 36)),
 o1 38 33 false (.bin .eql (.t 35) (.t 37)),
 o0 39 (.pick (.t 33) (.c (.bool true)) (.t 38)),
 o0 6 (.mv (.t 39))]) .ret)))⟩
def x579L1 : XCode :=
 (.seq (.region [0, 1, 2, 6, 10, 11, 12, 13] [o0 13 (.bin .lss (.t 12) (.t 11))]) (.seq (.cond (.t 13) .skip (.exit 0)) (.seq (.block 1 (.seq (.region [0, 1, 2, 6, 9, 10, 11, 12] [o0 14 (.idxA 2 (.t 10) (.t 12)),
 o0 15 (.load (some 2) (.t 14)),
 o0 9 (.alloc [(.int .u8 0),.nilFunc]),
 o2 (.store 2 (.t 9) (.t 15))]) (.seq (.region [0, 1, 2, 6, 9, 10, 11, 12, 19] [o0 16 (.fieldA 0 (.t 9)),
 o0 17 (.load none (.t 16)),
 o0 18 (.mv (.t 0)),
 o0 19 (.bin .eql (.t 17) (.t 18))]) (.cond (.t 19) (.seq (.region [6, 7] [o0 20 (.fieldA 1 (.t 9)),
 o0 21 (.load none (.t 20)),
 o0 22 (.mv (.t 1)),
 o0 23 (.mv (.t 2)),
 o0 24 (.callV (.t 21) [(.t 22),(.t 23)]),
 o2 (.store 2 (.t 6) (.t 24)),
 o0 7 (.mv (.c (.string .empty)))]) .ret) .skip)))) (.region [0, 1, 2, 6, 10, 11, 12] [o0 25 (.bin .add (.t 12) (.c (.int .i64 1))),
 o0 12 (.mv (.t 25))]))))
def x579 : XFun :=
 ⟨[.cell 6 (some 2),.tmp 7],(.seq (.region [0, 1, 2, 6] [o0 6 (.alloc [(.int .u8 0),(.int .i64 0)]),
 o0 7 (.mv (.c (.string .empty)))]) (.seq (.seq (.region [0, 1, 2, 6, 10, 11, 12] [o0 10 (.call .own 582 []),
 o0 11 (.len (.t 10)),
 o0 12 (.mv (.c (.int .i64 0)))]) (.block 0 (.loop [0, 1, 2, 6, 10, 11, 12] x579L1))) (.seq (.block 2 (.seq (.region [0, 1, 2, 6, 26] [o0 27 (.mv (.t 0)),
 o0 28 (.bin .neq (.t 27) (.c (.int .u8 4))),
 o0 29 (.mv (.t 28)),
 o1 30 29 true (.mv (.t 0)),
 o1 31 29 true (.bin .neq (.t 30) (.c (.int .u8 5))),
 o0 32 (.pick (.t 29) (.t 31) (.c (.bool false))),
 o0 26 (.mv (.t 32))]) (.cond (.t 26) (.seq (.region [6, 7] [o0 33 (.build [(.int .u8 0),(.int .i64 0)] []),
 o2 (.store 2 (.t 6) (.t 33)),
 o0 7 (.mv (.c (.string ⟨#[107, 105, 110, 100]⟩)))]) .ret) (.seq (.region [0, 1, 2, 6, 34] [o0 35 (.mv (.t 2)),
 o0 36 (.bin .eql (.t 35) (.c (.int .i64 0))),
 o0 34 (.mv (.t 36))]) (.cond (.t 34) (.seq (.region [6, 7] [o0 37 (.build [(.int .u8 0),(.int .i64 0)] []),
 o2 (.store 2 (.t 6) (.t 37)),
 o0 7 (.mv (.c (.string ⟨#[122, 101, 114, 111]⟩)))]) .ret) (.seq (.region [0, 1, 2, 6, 38] [o0 39 (.mv (.t 2)),
 o0 40 (.bin .eql (.t 39) (.c (.int .i64 (-1)))),
 o0 41 (.mv (.t 40)),
 o1 42 41 true (.mv (.t 0)),
 o1 43 41 true (.bin .eql (.t 42) (.c (.int .u8 4))),
 o0 44 (.pick (.t 41) (.t 43) (.c (.bool false))),
 o0 38 (.mv (.t 44))]) (.cond (.t 38) (.seq (.region [6, 7] [o0 45 (.mv (.t 1)),
 o0 46 (.un .neg (.t 45)),
 o0 47 (.call .view 589 [.t 46]),
 o2 (.store 2 (.t 6) (.t 47)),
 o0 7 (.mv (.c (.string .empty)))]) .ret) (.seq (.region [0, 1, 2, 6, 48] [o0 49 (.mv (.t 2)),
 o0 50 (.bin .eql (.t 49) (.c (.int .i64 (-1)))),
 o0 48 (.mv (.t 50))]) (.cond (.t 48) (.seq (.region [6, 7] [o0 51 (.call .view 589 [(.c (.int .i64 0))]),
 o2 (.store 2 (.t 6) (.t 51)),
 o0 7 (.mv (.c (.string .empty)))]) .ret) (.seq (.region [1, 2, 6, 52] [o0 53 (.mv (.t 0)),
 o0 54 (.bin .eql (.t 53) (.c (.int .u8 4))),
 o0 52 (.mv (.t 54))]) (.cond (.t 52) (.seq (.region [6, 7] [o0 55 (.mv (.t 1)),
 o0 56 (.mv (.t 2)),
 o0 57 (.bin .quo (.t 55) (.t 56)),
 o0 58 (.call .view 589 [.t 57]),
 o2 (.store 2 (.t 6) (.t 58)),
 o0 7 (.mv (.c (.string .empty)))]) .ret) .skip))))))))))) (.seq (.region [6, 7] [o0 59 (.mv (.t 1)),
 o0 60 (.mv (.t 2)),
 o0 61 (.bin .rem (.t 59) (.t 60)),
 o0 62 (.call .view 589 [.t 61]),
 o2 (.store 2 (.t 6) (.t 62)),
 o0 7 (.mv (.c (.string .empty)))]) .ret))))⟩
def x213 : XFun :=
 ⟨[.tmp 4],(.seq (.region [0, 3] [o0 3 (.box 2 (.t 1)),
 o0 4 (.mv (.c (.pointer none)))]) (.seq (.region [4] [o0 5 (.mv (.t 0)),
 o0 6 (.nilCheck (.t 5)),
 o0 7 (.fieldA 0 (.t 6)),
 o0 8 (.load none (.t 7)),
 o0 9 (.fieldA 1 (.t 3)),
 o0 10 (.load none (.t 9)),
 o0 11 (.bin .sub (.t 10) (.c (.int .i64 1))),
 o0 12 (.idxA 5 (.t 8) (.t 11)),
 o0 4 (.mv (.t 12))]) .ret))⟩
def x209L1 : XCode :=
 (.seq (.seq (.region [0, 1, 5, 7, 11] [o0 8 (.mv (.t 7)),
 o0 9 (.mv (.t 1)),
 o0 10 (.len (.t 9)),
 o0 11 (.bin .lss (.t 8) (.t 10))]) (.cond (.t 11) .skip (.exit 0))) (.seq (.block 1 (.seq (.region [0, 1, 5, 7, 20] [o0 14 (.mv (.t 0)),
 o0 15 (.mv (.t 1)),
 o0 16 (.mv (.t 7)),
 o0 17 (.idxA 2 (.t 15) (.t 16)),
 o0 18 (.load (some 2) (.t 17)),
 o0 19 (.load (some 2) (.t 5)),
 o0 20 (.call .peek 216 [(.t 14),(.t 18),(.t 19)])]) (.cond (.t 20) (.seq (.region [6] [o0 21 (.mv (.t 7)),
 o0 6 (.mv (.t 21))]) .ret) .skip))) (.region [0, 1, 5, 7] [o0 12 (.mv (.t 7)),
 o0 13 (.bin .add (.t 12) (.c (.int .i64 2))),
 o0 7 (.mv (.t 13))])))
def x209 : XFun :=
 ⟨[.tmp 6],(.seq (.region [0, 1, 5] [o0 5 (.box 2 (.t 2)),
 o0 6 (.mv (.c (.int .i64 0)))]) (.seq (.seq (.region [0, 1, 5, 7] [o0 7 (.mv (.c (.int .i64 0)))]) (.block 0 (.loop [0, 1, 5, 7] x209L1))) (.seq (.region [6] [o0 6 (.mv (.c (.int .i64 (-1))))]) .ret)))⟩
def x581 : XFun :=
 ⟨[.tmp 4],(.seq (.region [2, 3] [o0 2 (.box 2 (.t 0)),
 o0 3 (.box 2 (.t 1)),
 o0 4 (.mv (.c (.bool false)))]) (.seq (.region [4] [o0 5 (.fieldA 0 (.t 2)),
 o0 6 (.load none (.t 5)),
 o0 7 (.bin .eql (.t 6) (.c (.int .u8 5))),
 o0 8 (.mv (.t 7)),
 o1 9 8 false (.fieldA 0 (.t 2)),
 o1 10 8 false (.load none (.t 9)),
 o1 11 8 false (.bin .eql (.t 10) (.c (.int .u8 4))),
 o1 12 8 false (.mv (.t 11)),
 o1 13 12 false (.fieldA 0 (.t 2)),
 o1 14 12 false (.load none (.t 13)),
 o1 15 12 false (.bin .eql (.t 14) (.c (.int .u8 3))),
 o1 16 8 false (.pick (.t 12) (.c (.bool true)) (.t 15)),
 o1 17 8 false (.mv (.t 16)),
 o1 18 17 true (.fieldA 0 (.t 3)),
 o1 19 17 true (.load none (.t 18)),
 o1 20 17 true (.bin .eql (.t 19) (.c (.int .u8 2))),
 o1 21 8 false (.pick (.t 17) (.t 20) (.c (.bool false))),
 o0 22 (.pick (.t 8) (.c (.bool true)) (.t 21)),
 o0 4 (.mv (.t 22))]) .ret))⟩
def x582 : XFun :=
 ⟨[.tmp 0],(.seq (.region [] [o0 0 (.mv (.c (.slice none 0 0)))]) (.seq (.region [0] [o0 1 (.build [(.int .u8 0),.nilFunc] [(0, 1,(.c (.int .u8 1))),(1, 1,(.f 583))]),
 o0 2 (.build [(.int .u8 0),.nilFunc] [(0, 1,(.c (.int .u8 2))),(1, 1,(.f 584))]),
 o0 3 (.build [(.int .u8 0),.nilFunc] [(0, 1,(.c (.int .u8 3))),(1, 1,(.f 585))]),
 o0 4 (.build [(.int .u8 0),.nilFunc] [(0, 1,(.c (.int .u8 6))),(1, 1,(.f 586))]),
 o0 5 (.build [(.int .u8 0),.nilFunc] [(0, 1,(.c (.int .u8 7))),(1, 1,(.f 587))]),
 o0 6 (.buildSlice 2 [(.int .u8 0),.nilFunc] 5 [(0, 2,(.t 1)),(2, 2,(.t 2)),(4, 2,(.t 3)),(6, 2,(.t 4)),(8, 2,(.t 5))]),
 o0 0 (.mv (.t 6))]) .ret))⟩
def x589 : XFun :=
 ⟨[.cell 2 (some 2)],(.seq (.region [0, 2] [o0 2 (.alloc [(.int .u8 0),(.int .i64 0)])]) (.seq (.region [2] [o0 3 (.mv (.t 0)),
 o0 4 (.build [(.int .u8 0),(.int .i64 0)] [(0, 1,(.c (.int .u8 2))),(1, 1,(.t 3))]),
 o2 (.store 2 (.t 2) (.t 4))]) .ret))⟩
def x583 : XFun :=
 ⟨[.cell 4 (some 2)],(.seq (.region [0, 1, 4] [o0 4 (.alloc [(.int .u8 0),(.int .i64 0)])]) (.seq (.region [4] [o0 5 (.mv (.t 0)),
 o0 6 (.mv (.t 1)),
 o0 7 (.bin .add (.t 5) (.t 6)),
 o0 8 (.call .view 589 [.t 7]),
 o2 (.store 2 (.t 4) (.t 8))]) .ret))⟩
def x584 : XFun :=
 ⟨[.cell 4 (some 2)],(.seq (.region [0, 1, 4] [o0 4 (.alloc [(.int .u8 0),(.int .i64 0)])]) (.seq (.region [4] [o0 5 (.mv (.t 0)),
 o0 6 (.mv (.t 1)),
 o0 7 (.bin .sub (.t 5) (.t 6)),
 o0 8 (.call .view 589 [.t 7]),
 o2 (.store 2 (.t 4) (.t 8))]) .ret))⟩
def x585 : XFun :=
 ⟨[.cell 4 (some 2)],(.seq (.region [0, 1, 4] [o0 4 (.alloc [(.int .u8 0),(.int .i64 0)])]) (.seq (.region [4] [o0 5 (.mv (.t 0)),
 o0 6 (.mv (.t 1)),
 o0 7 (.bin .mul (.t 5) (.t 6)),
 o0 8 (.call .view 589 [.t 7]),
 o2 (.store 2 (.t 4) (.t 8))]) .ret))⟩
def x586 : XFun :=
 ⟨[.cell 4 (some 2)],(.seq (.region [0, 1, 4] [o0 4 (.alloc [(.int .u8 0),(.int .i64 0)])]) (.seq (.region [4] [o0 5 (.mv (.t 0)),
 o0 6 (.mv (.t 1)),
 o0 7 (.bin .lss (.t 5) (.t 6)),
 o0 8 (.call .view 588 [.t 7]),
 o2 (.store 2 (.t 4) (.t 8))]) .ret))⟩
def x587 : XFun :=
 ⟨[.cell 4 (some 2)],(.seq (.region [0, 1, 4] [o0 4 (.alloc [(.int .u8 0),(.int .i64 0)])]) (.seq (.region [4] [o0 5 (.mv (.t 0)),
 o0 6 (.mv (.t 1)),
 o0 7 (.bin .leq (.t 5) (.t 6)),
 o0 8 (.call .view 588 [.t 7]),
 o2 (.store 2 (.t 4) (.t 8))]) .ret))⟩
end Go.EX


set_option linter.unusedVariables false
namespace Go.EX
def x483VL1 : XCode :=
 (.seq (.seq (.region [0, 1, 2, 7, 8, 9, 10, 31] [⟨(some 28), .mv (.t 10), none⟩,
  ⟨(some 29), .mv (.t 0), none⟩,
  ⟨(some 30), .len (.t 29), none⟩,
  ⟨(some 31), .bin .lss (.t 28) (.t 30), none⟩])
 (.cond (.t 31)
  .skip
  (.exit 0)))
 (.seq (.block 1 (.seq (.region [0, 1, 2, 7, 9, 10, 11] [⟨(some 34), .mv (.t 8), none⟩,
  ⟨(some 35), .fieldA 1 (.t 7), none⟩,
  ⟨(some 36), .load (some 2) (.t 35), none⟩,
  ⟨(some 37), .mv (.t 0), none⟩,
  ⟨(some 38), .mv (.t 10), none⟩,
  ⟨(some 39), .idxA 1 (.t 37) (.t 38), none⟩,
  ⟨(some 40), .load none (.t 39), none⟩,
  ⟨(some 41), .conv .i64 (.t 40), none⟩,
  ⟨(some 42), .call .view 491 [(.t 41)], none⟩,
  ⟨(some 43), .mv (.t 10), none⟩,
  ⟨(some 44), .call .view 491 [(.t 43)], none⟩,
  ⟨(some 45), .call .view 636 [(.t 34), (.t 36), (.t 42), (.t 44)], none⟩,
  ⟨(some 11), .alloc [(.slice none 0 0), (.int .u8 0), (.int .i64 0), (.string .empty), (.int .i64 0)], none⟩,
  ⟨none, .store 5 (.t 11) (.t 45), none⟩])
 (.seq (.seq (.region [0, 1, 2, 7, 9, 10, 11, 48] [⟨(some 46), .fieldA 3 (.t 11), none⟩,
  ⟨(some 47), .load none (.t 46), none⟩,
  ⟨(some 48), .bin .neq (.t 47) (.c (.string .empty)), none⟩])
 (.cond (.t 48)
  (.seq (.region [6] [⟨(some 6), .mv (.c (.bool false)), none⟩])
  .ret)
  .skip))
 (.seq (.region [0, 1, 2, 7, 8, 9, 10] [⟨(some 49), .fieldA 0 (.t 11), none⟩,
  ⟨(some 50), .load none (.t 49), none⟩,
  ⟨(some 8), .mv (.t 50), none⟩])
 (.region [0, 1, 2, 7, 8, 9, 10] [⟨(some 51), .mv (.t 9), none⟩,
  ⟨(some 52), .mv (.t 0), none⟩,
  ⟨(some 53), .mv (.t 10), none⟩,
  ⟨(some 54), .idxA 1 (.t 52) (.t 53), none⟩,
  ⟨(some 55), .load none (.t 54), none⟩,
  ⟨(some 56), .mv (.t 10), none⟩,
  ⟨none, .mapSet 0 (.t 51) (.t 55) (.t 56), none⟩])))))
 (.region [0, 1, 2, 7, 8, 9, 10] [⟨(some 32), .mv (.t 10), none⟩,
  ⟨(some 33), .bin .add (.t 32) (.c (.int .i64 1)), none⟩,
  ⟨(some 10), .mv (.t 33), none⟩])))
def x483VL2 : XCode :=
 (.seq (.seq (.region [0, 1, 2, 7, 9, 13, 14, 78] [⟨(some 75), .mv (.t 14), none⟩,
  ⟨(some 76), .mv (.t 0), none⟩,
  ⟨(some 77), .len (.t 76), none⟩,
  ⟨(some 78), .bin .lss (.t 75) (.t 77), none⟩])
 (.cond (.t 78)
  .skip
  (.exit 2)))
 (.seq (.block 3 (.seq (.region [0, 1, 2, 7, 9, 13, 14, 15] [⟨(some 81), .fieldA 0 (.t 13), none⟩,
  ⟨(some 82), .load none (.t 81), none⟩,
  ⟨(some 83), .fieldA 1 (.t 7), none⟩,
  ⟨(some 84), .load (some 2) (.t 83), none⟩,
  ⟨(some 85), .mv (.t 0), none⟩,
  ⟨(some 86), .mv (.t 14), none⟩,
  ⟨(some 87), .idxA 1 (.t 85) (.t 86), none⟩,
  ⟨(some 88), .load none (.t 87), none⟩,
  ⟨(some 89), .conv .i64 (.t 88), none⟩,
  ⟨(some 90), .call .view 491 [(.t 89)], none⟩,
  ⟨(some 91), .call .view 630 [(.t 82), (.t 84), (.t 90)], none⟩,
  ⟨(some 92), .field 1 (some 2) (.t 91), none⟩,
  ⟨(some 15), .alloc [(.int .u8 0), (.int .i64 0)], none⟩,
  ⟨none, .store 2 (.t 15) (.t 92), none⟩])
 (.seq (.region [0, 1, 2, 7, 9, 13, 14, 15, 16] [⟨(some 93), .mv (.t 9), none⟩,
  ⟨(some 94), .mv (.t 0), none⟩,
  ⟨(some 95), .mv (.t 14), none⟩,
  ⟨(some 96), .idxA 1 (.t 94) (.t 95), none⟩,
  ⟨(some 97), .load none (.t 96), none⟩,
  ⟨(some 98), .lookup 0 [(.int .i64 0)] false (.t 93) (.t 97) false, none⟩,
  ⟨(some 99), .call .view 491 [(.t 98)], none⟩,
  ⟨(some 16), .alloc [(.int .u8 0), (.int .i64 0)], none⟩,
  ⟨none, .store 2 (.t 16) (.t 99), none⟩])
 (.seq (.seq (.region [0, 1, 2, 7, 9, 13, 14, 15, 16, 106] [⟨(some 100), .mv (.t 0), none⟩,
  ⟨(some 101), .mv (.t 14), none⟩,
  ⟨(some 102), .idxA 1 (.t 100) (.t 101), none⟩,
  ⟨(some 103), .load none (.t 102), none⟩,
  ⟨(some 104), .conv .i64 (.t 103), none⟩,
  ⟨(some 105), .mv (.t 1), none⟩,
  ⟨(some 106), .bin .eql (.t 104) (.t 105), none⟩])
 (.cond (.t 106)
  (.region [0, 1, 2, 7, 9, 13, 14, 15, 16] [⟨(some 107), .mv (.t 2), none⟩,
   ⟨(some 108), .call .view 491 [(.t 107)], none⟩,
   ⟨none, .store 2 (.t 16) (.t 108), none⟩])
  .skip))
 (.seq (.region [0, 1, 2, 7, 9, 13, 14, 111] [⟨(some 109), .load (some 2) (.t 15), none⟩,
  ⟨(some 110), .load (some 2) (.t 16), none⟩,
  ⟨(some 111), .eqCells true [0, 0] (.t 109) (.t 110), none⟩])
 (.cond (.t 111)
  (.seq (.region [6] [⟨(some 6), .mv (.c (.bool false)), none⟩])
  .ret)
  .skip))))))
 (.region [0, 1, 2, 7, 9, 13, 14] [⟨(some 79), .mv (.t 14), none⟩,
  ⟨(some 80), .bin .add (.t 79) (.c (.int .i64 1)), none⟩,
  ⟨(some 14), .mv (.t 80), none⟩])))
def x483V : XFun := ⟨[.tmp 6],
 (.seq (.region [0, 1, 2] [⟨(some 6), .mv (.c (.bool false)), none⟩])
 (.seq (.seq (.region [0, 1, 2, 19] [⟨(some 17), .mv (.t 0), none⟩,
  ⟨(some 18), .len (.t 17), none⟩,
  ⟨(some 19), .bin .gtr (.t 18) (.c (.int .i64 300)), none⟩])
 (.cond (.t 19)
  (.seq (.region [6] [⟨(some 20), .call .view 489 [], none⟩,
   ⟨(some 6), .mv (.t 20), none⟩])
  .ret)
  .skip))
 (.seq (.region [0, 1, 2, 7] [⟨(some 21), .call .view 633 [(.c (.slice none 0 0)), (.c (.slice none 0 0))], none⟩,
  ⟨(some 7), .alloc [(.slice none 0 0), (.int .u8 0), (.int .i64 0), (.string .empty), (.int .i64 0)], none⟩,
  ⟨none, .store 5 (.t 7) (.t 21), none⟩])
 (.seq (.seq (.region [0, 1, 2, 7, 24] [⟨(some 22), .fieldA 3 (.t 7), none⟩,
  ⟨(some 23), .load none (.t 22), none⟩,
  ⟨(some 24), .bin .neq (.t 23) (.c (.string .empty)), none⟩])
 (.cond (.t 24)
  (.seq (.region [6] [⟨(some 6), .mv (.c (.bool false)), none⟩])
  .ret)
  .skip))
 (.seq (.region [0, 1, 2, 7, 8] [⟨(some 25), .fieldA 0 (.t 7), none⟩,
  ⟨(some 26), .load none (.t 25), none⟩,
  ⟨(some 8), .mv (.t 26), none⟩])
 (.seq (.region [0, 1, 2, 7, 8, 9] [⟨(some 27), .makeMap none, none⟩,
  ⟨(some 9), .mv (.t 27), none⟩])
 (.seq (.seq (.region [0, 1, 2, 7, 8, 9, 10] [⟨(some 10), .mv (.c (.int .i64 0)), none⟩])
 (.block 0 (.loop [0, 1, 2, 7, 8, 9, 10] x483VL1)))
 (.seq (.region [0, 1, 2, 7, 8, 9, 12] [⟨(some 57), .mv (.t 8), none⟩,
  ⟨(some 58), .fieldA 1 (.t 7), none⟩,
  ⟨(some 59), .load (some 2) (.t 58), none⟩,
  ⟨(some 60), .call .view 631 [(.t 57), (.t 59)], none⟩,
  ⟨(some 12), .alloc [(.slice none 0 0), (.int .u8 0), (.int .i64 0), (.string .empty), (.int .i64 0)], none⟩,
  ⟨none, .store 5 (.t 12) (.t 60), none⟩])
 (.seq (.seq (.region [0, 1, 2, 7, 8, 9, 66] [⟨(some 61), .fieldA 1 (.t 12), none⟩,
  ⟨(some 62), .load (some 2) (.t 61), none⟩,
  ⟨(some 63), .mv (.t 9), none⟩,
  ⟨(some 64), .lenM (.t 63), none⟩,
  ⟨(some 65), .call .view 491 [(.t 64)], none⟩,
  ⟨(some 66), .eqCells true [0, 0] (.t 62) (.t 65), none⟩])
 (.cond (.t 66)
  (.seq (.region [6] [⟨(some 6), .mv (.c (.bool false)), none⟩])
  .ret)
  .skip))
 (.seq (.region [0, 1, 2, 7, 9, 13] [⟨(some 67), .mv (.t 8), none⟩,
  ⟨(some 68), .fieldA 1 (.t 7), none⟩,
  ⟨(some 69), .load (some 2) (.t 68), none⟩,
  ⟨(some 70), .mv (.t 1), none⟩,
  ⟨(some 71), .call .view 491 [(.t 70)], none⟩,
  ⟨(some 72), .mv (.t 2), none⟩,
  ⟨(some 73), .call .view 491 [(.t 72)], none⟩,
  ⟨(some 74), .call .view 636 [(.t 67), (.t 69), (.t 71), (.t 73)], none⟩,
  ⟨(some 13), .alloc [(.slice none 0 0), (.int .u8 0), (.int .i64 0), (.string .empty), (.int .i64 0)], none⟩,
  ⟨none, .store 5 (.t 13) (.t 74), none⟩])
 (.seq (.seq (.region [0, 1, 2, 7, 9, 13, 14] [⟨(some 14), .mv (.c (.int .i64 0)), none⟩])
 (.block 2 (.loop [0, 1, 2, 7, 9, 13, 14] x483VL2)))
 (.seq (.region [6] [⟨(some 112), .fieldA 0 (.t 13), none⟩,
  ⟨(some 113), .load none (.t 112), none⟩,
  ⟨(some 114), .fieldA 1 (.t 7), none⟩,
  ⟨(some 115), .load (some 2) (.t 114), none⟩,
  ⟨(some 116), .mv (.t 1), none⟩,
  ⟨(some 117), .call .view 491 [(.t 116)], none⟩,
  ⟨(some 118), .call .view 630 [(.t 113), (.t 115), (.t 117)], none⟩,
  ⟨(some 119), .field 1 (some 2) (.t 118), none⟩,
  ⟨(some 120), .mv (.t 2), none⟩,
  ⟨(some 121), .call .view 491 [(.t 120)], none⟩,
  ⟨(some 122), .eqCells false [0, 0] (.t 119) (.t 121), none⟩,
  ⟨(some 123), .mv (.t 122), none⟩,
  ⟨(some 124), .call .view 489 [], some (123, true)⟩,
  ⟨(some 125), .pick (.t 123) (.t 124) (.c (.bool false)), none⟩,
  ⟨(some 6), .mv (.t 125), none⟩])
 .ret))))))))))))⟩
def x641V : XFun := ⟨[.tmp 3],
 (.seq (.region [1, 2] [⟨(some 2), .box 2 (.t 0), none⟩,
  ⟨(some 3), .mv (.c (.bool false)), none⟩])
 (.seq (.region [3] [⟨(some 4), .load none (.t 1), none⟩,
  ⟨(some 5), .load (some 2) (.t 2), none⟩,
  ⟨(some 6), .call .view 646 [(.t 4), (.t 5)], none⟩,
  ⟨(some 7), .un .not (.t 6), none⟩,
  ⟨(some 3), .mv (.t 7), none⟩])
 .ret))⟩
def code11m : Nat → Option XFun
 | 206 => some x206
 | 209 => some x209
 | 211 => some x211
 | 212 => some x212
 | 213 => some x213
 | 214 => some x214
 | 215 => some x215
 | 216 => some x216
 | 217 => some x217
 | 218 => some x218
 | 483 => some x483V
 | 491 => some x491
 | 578 => some x578
 | 580 => some x580
 | 581 => some x581
 | 630 => some x630
 | 631 => some x631
 | 633 => some x633
 | 636 => some x636
 | 639 => some x639
 | 640 => some x640
 | 641 => some x641V
 | 642 => some x642
 | 643 => some x643
 | 740 => some x740
 | 741 => some x741
 | 742 => some x742
 | 743 => some x743
 | 749 => some x749
 | 759 => some x759
 | _ => none
theorem zb6 : code11m yieldNo = none := by
 unfold code11m
 split <;> first | (rename_i h; exact absurd h (by decide)) | rfl
end Go.EX


namespace Go.Proofs.YtedddogbgdbpmaaDoor
open Go.EX
def gids : List Nat := [100000, 100001, 703, 483, 480, 489, 633, 636, 491, 631, 630, 487, 646, 649, 627, 632, 637, 355, 640, 361, 656, 745, 654, 647, 652, 657, 352, 643, 749, 641, 642, 206, 639, 339, 651, 755, 655, 653, 650, 351, 743, 740, 742, 741, 759, 578, 219, 207, 212, 580, 210, 588, 217, 208, 214, 211, 215, 338, 357, 218, 216, 579, 213, 648, 209, 581, 380, 582, 589, 246, 244, 670, 583, 584, 585, 586, 587, 673, 785, 786, 245, 669, 674, 708, 709, 100085, 719, 718, 713, 714, 716, 732, 712, 715, 733, 734, 735, 100097, 100098, 100099, 100100, 100101, 100102, 100103, 100104, 100105, 100106, 100107, 100108, 100109, 100110, 100111, 100112, 100113, 100114, 100115, 100116, 100117, 100118, 704]
def num (f : FuncId) : Nat := (gids[f]?).getD (100000 + f)
theorem ok3 : FunOK Tryd.prog num 3 x483V := .of Tryd.func3 (by kernel_rfl) (by kernel_rfl) (by kernel_rfl) (by kernel_rfl) (by kernel_rfl)
theorem ok6 : FunOK Tryd.prog num 6 x633 := .of Tryd.func6 (by kernel_rfl) (by kernel_rfl) (by kernel_rfl) (by kernel_rfl) (by kernel_rfl)
theorem ok7 : FunOK Tryd.prog num 7 x636 := .of Tryd.func7 (by kernel_rfl) (by kernel_rfl) (by kernel_rfl) (by kernel_rfl) (by kernel_rfl)
theorem ok8 : FunOK Tryd.prog num 8 x491 := .of Tryd.func8 (by kernel_rfl) (by kernel_rfl) (by kernel_rfl) (by kernel_rfl) (by kernel_rfl)
theorem ok9 : FunOK Tryd.prog num 9 x631 := .of Tryd.func9 (by kernel_rfl) (by kernel_rfl) (by kernel_rfl) (by kernel_rfl) (by kernel_rfl)
theorem ok10 : FunOK Tryd.prog num 10 x630 := .of Tryd.func10 (by kernel_rfl) (by kernel_rfl) (by kernel_rfl) (by kernel_rfl) (by kernel_rfl)
theorem ok18 : FunOK Tryd.prog num 18 x640 := .of Tryd.func18 (by kernel_rfl) (by kernel_rfl) (by kernel_rfl) (by kernel_rfl) (by kernel_rfl)
theorem ok27 : FunOK Tryd.prog num 27 x643 := .of Tryd.func27 (by kernel_rfl) (by kernel_rfl) (by kernel_rfl) (by kernel_rfl) (by kernel_rfl)
theorem ok28 : FunOK Tryd.prog num 28 x749 := .of Tryd.func28 (by kernel_rfl) (by kernel_rfl) (by kernel_rfl) (by kernel_rfl) (by kernel_rfl)
theorem ok29 : FunOK Tryd.prog num 29 x641V := .of Tryd.func29 (by kernel_rfl) (by kernel_rfl) (by kernel_rfl) (by kernel_rfl) (by kernel_rfl)
theorem ok30 : FunOK Tryd.prog num 30 x642 := .of Tryd.func30 (by kernel_rfl) (by kernel_rfl) (by kernel_rfl) (by kernel_rfl) (by kernel_rfl)
theorem ok31 : FunOK Tryd.prog num 31 x206 := .of Tryd.func31 (by kernel_rfl) (by kernel_rfl) (by kernel_rfl) (by kernel_rfl) (by kernel_rfl)
theorem ok32 : FunOK Tryd.prog num 32 x639 := .of Tryd.func32 (by kernel_rfl) (by kernel_rfl) (by kernel_rfl) (by kernel_rfl) (by kernel_rfl)
theorem ok40 : FunOK Tryd.prog num 40 x743 := .of Tryd.func40 (by kernel_rfl) (by kernel_rfl) (by kernel_rfl) (by kernel_rfl) (by kernel_rfl)
theorem ok41 : FunOK Tryd.prog num 41 x740 := .of Tryd.func41 (by kernel_rfl) (by kernel_rfl) (by kernel_rfl) (by kernel_rfl) (by kernel_rfl)
theorem ok42 : FunOK Tryd.prog num 42 x742 := .of Tryd.func42 (by kernel_rfl) (by kernel_rfl) (by kernel_rfl) (by kernel_rfl) (by kernel_rfl)
theorem ok43 : FunOK Tryd.prog num 43 x741 := .of Tryd.func43 (by kernel_rfl) (by kernel_rfl) (by kernel_rfl) (by kernel_rfl) (by kernel_rfl)
theorem ok44 : FunOK Tryd.prog num 44 x759 := .of Tryd.func44 (by kernel_rfl) (by kernel_rfl) (by kernel_rfl) (by kernel_rfl) (by kernel_rfl)
theorem ok45 : FunOK Tryd.prog num 45 x578 := .of Tryd.func45 (by kernel_rfl) (by kernel_rfl) (by kernel_rfl) (by kernel_rfl) (by kernel_rfl)
theorem ok48 : FunOK Tryd.prog num 48 x212 := .of Tryd.func48 (by kernel_rfl) (by kernel_rfl) (by kernel_rfl) (by kernel_rfl) (by kernel_rfl)
theorem ok49 : FunOK Tryd.prog num 49 x580 := .of Tryd.func49 (by kernel_rfl) (by kernel_rfl) (by kernel_rfl) (by kernel_rfl) (by kernel_rfl)
theorem ok52 : FunOK Tryd.prog num 52 x217 := .of Tryd.func52 (by kernel_rfl) (by kernel_rfl) (by kernel_rfl) (by kernel_rfl) (by kernel_rfl)
theorem ok54 : FunOK Tryd.prog num 54 x214 := .of Tryd.func54 (by kernel_rfl) (by kernel_rfl) (by kernel_rfl) (by kernel_rfl) (by kernel_rfl)
theorem ok55 : FunOK Tryd.prog num 55 x211 := .of Tryd.func55 (by kernel_rfl) (by kernel_rfl) (by kernel_rfl) (by kernel_rfl) (by kernel_rfl)
theorem ok56 : FunOK Tryd.prog num 56 x215 := .of Tryd.func56 (by kernel_rfl) (by kernel_rfl) (by kernel_rfl) (by kernel_rfl) (by kernel_rfl)
theorem ok59 : FunOK Tryd.prog num 59 x218 := .of Tryd.func59 (by kernel_rfl) (by kernel_rfl) (by kernel_rfl) (by kernel_rfl) (by kernel_rfl)
theorem ok60 : FunOK Tryd.prog num 60 x216 := .of Tryd.func60 (by kernel_rfl) (by kernel_rfl) (by kernel_rfl) (by kernel_rfl) (by kernel_rfl)
theorem ok62 : FunOK Tryd.prog num 62 x213 := .of Tryd.func62 (by kernel_rfl) (by kernel_rfl) (by kernel_rfl) (by kernel_rfl) (by kernel_rfl)
theorem ok64 : FunOK Tryd.prog num 64 x209 := .of Tryd.func64 (by kernel_rfl) (by kernel_rfl) (by kernel_rfl) (by kernel_rfl) (by kernel_rfl)
theorem ok65 : FunOK Tryd.prog num 65 x581 := .of Tryd.func65 (by kernel_rfl) (by kernel_rfl) (by kernel_rfl) (by kernel_rfl) (by kernel_rfl)
abbrev FnAt (f : Nat) : Prop := ∀ xf, code11m (num f) = some xf → FunOK Tryd.prog num f xf
theorem hit {n : Nat} {x : XFun} (e : code11m (num n) = some x) (k : FunOK Tryd.prog num n x) (r : ∀ f, f < n → FnAt f) : ∀ f, f < n + 1 → FnAt f := fun f h xf hx => by
 rcases Nat.lt_or_eq_of_le (Nat.le_of_lt_succ h) with h | rfl
 ·exact r f h xf hx
 ·rw [e] at hx; cases hx; exact k
theorem nix {n : Nat} (e : code11m (num n) = none) (r : ∀ f, f < n → FnAt f) : ∀ f, f < n + 1 → FnAt f := fun f h xf hx => by
 rcases Nat.lt_or_eq_of_le (Nat.le_of_lt_succ h) with h | rfl
 ·exact r f h xf hx
 ·rw [e] at hx; cases hx
theorem upto20 : ∀ f, f < 20 → FnAt f :=
 nix (by kernel_rfl) <|
 hit (by kernel_rfl) ok18 <|
 nix (by kernel_rfl) <|
 nix (by kernel_rfl) <|
 nix (by kernel_rfl) <|
 nix (by kernel_rfl) <|
 nix (by kernel_rfl) <|
 nix (by kernel_rfl) <|
 nix (by kernel_rfl) <|
 hit (by kernel_rfl) ok10 <|
 hit (by kernel_rfl) ok9 <|
 hit (by kernel_rfl) ok8 <|
 hit (by kernel_rfl) ok7 <|
 hit (by kernel_rfl) ok6 <|
 nix (by kernel_rfl) <|
 nix (by kernel_rfl) <|
 hit (by kernel_rfl) ok3 <|
 nix (by kernel_rfl) <|
 nix (by kernel_rfl) <|
 nix (by kernel_rfl) (fun f h => absurd h (Nat.not_lt_zero f))
theorem upto40 : ∀ f, f < 40 → FnAt f :=
 nix (by kernel_rfl) <|
 nix (by kernel_rfl) <|
 nix (by kernel_rfl) <|
 nix (by kernel_rfl) <|
 nix (by kernel_rfl) <|
 nix (by kernel_rfl) <|
 nix (by kernel_rfl) <|
 hit (by kernel_rfl) ok32 <|
 hit (by kernel_rfl) ok31 <|
 hit (by kernel_rfl) ok30 <|
 hit (by kernel_rfl) ok29 <|
 hit (by kernel_rfl) ok28 <|
 hit (by kernel_rfl) ok27 <|
 nix (by kernel_rfl) <|
 nix (by kernel_rfl) <|
 nix (by kernel_rfl) <|
 nix (by kernel_rfl) <|
 nix (by kernel_rfl) <|
 nix (by kernel_rfl) <|
 nix (by kernel_rfl) upto20
theorem upto60 : ∀ f, f < 60 → FnAt f :=
 hit (by kernel_rfl) ok59 <|
 nix (by kernel_rfl) <|
 nix (by kernel_rfl) <|
 hit (by kernel_rfl) ok56 <|
 hit (by kernel_rfl) ok55 <|
 hit (by kernel_rfl) ok54 <|
 nix (by kernel_rfl) <|
 hit (by kernel_rfl) ok52 <|
 nix (by kernel_rfl) <|
 nix (by kernel_rfl) <|
 hit (by kernel_rfl) ok49 <|
 hit (by kernel_rfl) ok48 <|
 nix (by kernel_rfl) <|
 nix (by kernel_rfl) <|
 hit (by kernel_rfl) ok45 <|
 hit (by kernel_rfl) ok44 <|
 hit (by kernel_rfl) ok43 <|
 hit (by kernel_rfl) ok42 <|
 hit (by kernel_rfl) ok41 <|
 hit (by kernel_rfl) ok40 upto40
theorem upto80 : ∀ f, f < 80 → FnAt f :=
 nix (by kernel_rfl) <|
 nix (by kernel_rfl) <|
 nix (by kernel_rfl) <|
 nix (by kernel_rfl) <|
 nix (by kernel_rfl) <|
 nix (by kernel_rfl) <|
 nix (by kernel_rfl) <|
 nix (by kernel_rfl) <|
 nix (by kernel_rfl) <|
 nix (by kernel_rfl) <|
 nix (by kernel_rfl) <|
 nix (by kernel_rfl) <|
 nix (by kernel_rfl) <|
 nix (by kernel_rfl) <|
 hit (by kernel_rfl) ok65 <|
 hit (by kernel_rfl) ok64 <|
 nix (by kernel_rfl) <|
 hit (by kernel_rfl) ok62 <|
 nix (by kernel_rfl) <|
 hit (by kernel_rfl) ok60 upto60
theorem upto100 : ∀ f, f < 100 → FnAt f :=
 nix (by kernel_rfl) <|
 nix (by kernel_rfl) <|
 nix (by kernel_rfl) <|
 nix (by kernel_rfl) <|
 nix (by kernel_rfl) <|
 nix (by kernel_rfl) <|
 nix (by kernel_rfl) <|
 nix (by kernel_rfl) <|
 nix (by kernel_rfl) <|
 nix (by kernel_rfl) <|
 nix (by kernel_rfl) <|
 nix (by kernel_rfl) <|
 nix (by kernel_rfl) <|
 nix (by kernel_rfl) <|
 nix (by kernel_rfl) <|
 nix (by kernel_rfl) <|
 nix (by kernel_rfl) <|
 nix (by kernel_rfl) <|
 nix (by kernel_rfl) <|
 nix (by kernel_rfl) upto80
theorem upto120 : ∀ f, f < 120 → FnAt f :=
 nix (by kernel_rfl) <|
 nix (by kernel_rfl) <|
 nix (by kernel_rfl) <|
 nix (by kernel_rfl) <|
 nix (by kernel_rfl) <|
 nix (by kernel_rfl) <|
 nix (by kernel_rfl) <|
 nix (by kernel_rfl) <|
 nix (by kernel_rfl) <|
 nix (by kernel_rfl) <|
 nix (by kernel_rfl) <|
 nix (by kernel_rfl) <|
 nix (by kernel_rfl) <|
 nix (by kernel_rfl) <|
 nix (by kernel_rfl) <|
 nix (by kernel_rfl) <|
 nix (by kernel_rfl) <|
 nix (by kernel_rfl) <|
 nix (by kernel_rfl) <|
 nix (by kernel_rfl) upto100
theorem fns (f : FuncId) (xf : XFun) (h : code11m (num f) = some xf) : FunOK Tryd.prog num f xf := by
 by_cases hf : f < 120
 ·exact upto120 f hf xf h
 ·have hn : num f = 100000 + f := by
   unfold num
   rw [List.getElem?_eq_none (by rw [show gids.length = 120 from by kernel_rfl]; simp only [FuncId] at *; omega)]; rfl
  rw [hn] at h
  unfold code11m at h
  split at h <;> first | (exfalso; simp only [FuncId] at *; omega) | cases h
theorem nz (f : FuncId) : num f ≠ yieldNo := by
 by_cases hf : f < 120
 ·exact (by decide +kernel : ∀ f : Fin 120, num f.val ≠ yieldNo) ⟨f, hf⟩
 ·have hn : num f = 100000 + f := by
   unfold num
   rw [List.getElem?_eq_none (by rw [show gids.length = 120 from by kernel_rfl]; simp only [FuncId] at *; omega)]; rfl
  rw [hn, yieldNo]
  simp only [FuncId] at *; omega
end Go.Proofs.YtedddogbgdbpmaaDoor


set_option linter.unusedVariables false
set_option linter.unusedSimpArgs false
namespace Go.EX
attribute [simp] List.range_succ funOut zcs zcq zcp XO.unlit XOp.unlit zcr zcm zcn zct zcl blockOut andThen exOps exOne exOp Env.ev Env.get Env.keep enter AV.cells fresh loadAt getCells getCellsI valBin boolBin intBin shiftBin strBin valUn intOf bndOf bounds
 storeAt imms leave resOf wrapRes order reach Mem.refs AObj.refs AV.refs AV.refs.refsL Mem.pickAll AObj.ren AV.ren AV.ren.renL place fillAll mkObj imZ sameCells St.tidy Env.roots Env.ren AV.plain1 AV.plain2 AV.plain AV.own1 AV.own2 AV.own IV.plain AObj.own AObj.live AV.isImm exView exOwn exShare shareOk AObj.isFix exPeek exLook frz frz.frz1 frzV AObj.moved AObj.orMoved shareAt St.scrub isKeyAV zeroAV
@[simp] theorem lenOf_nil : lenOf (.imm (.val (.slice none 0 0))) = some 0 := rfl
@[simp] theorem lenOf_slice (row : List IV) (off len : Nat) (cap : Option Nat) : lenOf (.imm (.slice row off len cap)) = some len := rfl
@[simp] theorem lenOf_osl (id off sz len : Nat) (cap : Option Nat) : lenOf (.osl id off sz len cap) = some len := rfl
@[simp] theorem capOf_slice (row : List IV) (off len : Nat) (cap : Option Nat) : capOf (.imm (.slice row off len cap)) = cap := rfl
@[simp] theorem capOf_osl (id off sz len : Nat) (cap : Option Nat) : capOf (.osl id off sz len cap) = cap := rfl
@[simp] theorem isNil_slice (row : List IV) (off len : Nat) (cap : Option Nat) : isNil (.imm (.slice row off len cap)) = some false := rfl
@[simp] theorem isNil_ptr (row : List IV) (off : Nat) : isNil (.imm (.ptr row off)) = some false := rfl
@[simp] theorem isNil_osl (id off sz len : Nat) (cap : Option Nat) : isNil (.osl id off sz len cap) = some false := rfl
@[simp] theorem isNil_optr (id off : Nat) : isNil (.optr id off) = some false := rfl
@[simp] theorem isNil_omap (id : Nat) : isNil (.omap id) = some false := rfl
@[simp] theorem isNil_pnone : isNil (.imm (.val (.pointer none))) = some true := rfl
@[simp] theorem isNilK_snone : isNilK 0 (.imm (.val (.slice none 0 0))) = some true := rfl
@[simp] theorem isNilK_slice (row : List IV) (off len : Nat) (cap : Option Nat) : isNilK 0 (.imm (.slice row off len cap)) = some false := rfl
@[simp] theorem isNilK_osl (id off sz len : Nat) (cap : Option Nat) : isNilK 0 (.osl id off sz len cap) = some false := rfl
@[simp] theorem isNilK_pnone : isNilK 1 (.imm (.val (.pointer none))) = some true := rfl
@[simp] theorem isNilK_ptr (row : List IV) (off : Nat) : isNilK 1 (.imm (.ptr row off)) = some false := rfl
@[simp] theorem isNilK_optr (id off : Nat) : isNilK 1 (.optr id off) = some false := rfl
@[simp] theorem int_beq (a b : Int) : (a == b) = decide (a = b) := by by_cases h : a = b <;> simp [h]
theorem zbg {a b : ByteArray} (h : a.toList = b.toList) : a = b := by
 have e : ∀ c : ByteArray, c.toList = c.data.toList := ByteArray.toList_eq
 rw [e, e] at h
 cases a; cases b
 simp at h
 exact congrArg ByteArray.mk h
@[simp] theorem bytes_beq (a b : ByteArray) : (a.toList == b.toList) = decide (a = b) := by
 by_cases h : a = b
 ·subst h; simp
 ·have : a.toList ≠ b.toList := fun e => h (zbg e)
  simp [h, this]
@[simp] theorem cut_zero {β : Type} (l : List β) : cut l 0 0 = some [] := by simp [cut]
@[simp] theorem cut_cons_zero {β : Type} (x : β) (l : List β) (n : Nat) : cut (x :: l) 0 (n + 1) = (cut l 0 n).map (x :: ·) := by
 simp only [cut, List.drop_zero, List.take_succ_cons, List.length_cons]
 by_cases h : (l.take n).length = n
 ·rw [if_pos h, if_pos (by omega)]; rfl
 ·rw [if_neg h, if_neg (by omega)]; rfl
@[simp] theorem cut_cons_succ {β : Type} (x : β) (l : List β) (o n : Nat) : cut (x :: l) (o + 1) n = cut l o n := by simp [cut]
@[simp] theorem setAll_nil {β : Type} (l : List β) (o : Nat) : setAll l o [] = l := rfl
@[simp] theorem setAll_cons_succ {β : Type} (x : β) : ∀ (ys l : List β) (o : Nat), setAll (x :: l) (o + 1) ys = x :: setAll l o ys
 | [], l, o => rfl
 | y :: ys, l, o => by rw [setAll, List.set_cons_succ, setAll_cons_succ x ys]; rfl
@[simp] theorem setAll_cons_zero {β : Type} (x y : β) (l ys : List β) : setAll (x :: l) 0 (y :: ys) = y :: setAll l 0 ys := by
 rw [setAll, List.set_cons_zero, setAll_cons_succ]
@[simp] theorem imms_imm : ∀ (l : List IV), imms (l.map .imm) = some l
 | [] => rfl
 | x :: l => by simp [imms, imms_imm l]
@[simp] theorem copies_0 {β : Type} (l : List β) : copies 0 l = [] := rfl
@[simp] theorem copies_1 {β : Type} (l : List β) : copies 1 l = l := by simp [copies]
@[simp] theorem copies_2 {β : Type} (l : List β) : copies 2 l = l ++ l := by simp [copies]
@[simp] theorem copies_3 {β : Type} (l : List β) : copies 3 l = l ++ (l ++ l) := by simp [copies]
@[simp] theorem copies_4 {β : Type} (l : List β) : copies 4 l = l ++ (l ++ (l ++ l)) := by simp [copies]
def Ty.row {α : Type} (t : Ty α) (xs : List α) : List IV := xs.flatMap t.enc
abbrev nilS : AV := .imm (.val (.slice none 0 0))
abbrev int64 (n : Int) : AV := .imm (.val (.int .i64 n))
abbrev avb (b : Bool) : AV := .imm (.val (.bool b))
theorem zhb {code : Nat → Option XFun} {ext : Calls'} {keep : List Nat} {b : XCode} (I : Nat → St → Prop) (Q : XExit → St → Prop)
  (h : ∀ n s, I n s → ∃ e s', den code ext b (s.tidy keep) = some (e, s') ∧ ((e = .normal ∧ ∃ m, m < n ∧ I m s') ∨ (e ≠ .normal ∧ Q e s'))) : ∀ n s, I n s → ∃ e s', den code ext (.loop keep b) s = some (e, s') ∧ e ≠ .normal ∧ Q e s' := by
 intro n
 induction n using Nat.strongRecOn with
 | ind n ih =>
  intro s hs
  obtain ⟨e, s', h1, h2⟩ := h n s hs
  rw [zco, h1]
  rcases h2 with ⟨rfl, m, hm, hI⟩ | ⟨hne, hq⟩
  ·exact ih m hm s' hI
  ·refine ⟨e, s', ?_, hne, hq⟩
   cases e with
   | normal => exact absurd rfl hne
   | exit id => rfl
   | ret => rfl
theorem wrapI64 {x : Int} (h1 : -9223372036854775808 ≤ x) (h2 : x ≤ 9223372036854775807) : IntKind.wrap .i64 x = x := by
 simp only [IntKind.wrap, IntKind.signed, IntKind.bits]
 simp
 omega
theorem wfI64 {n : Int} : (tInt .i64).wf n ↔ -9223372036854775808 ≤ n ∧ n ≤ 9223372036854775807 := by
 simp [tInt, Lit.wf, IntKind.min, IntKind.max, IntKind.signed, IntKind.bits]
theorem wfU8 {n : Int} : (tInt .u8).wf n ↔ 0 ≤ n ∧ n ≤ 255 := by
 simp [tInt, Lit.wf, IntKind.min, IntKind.max, IntKind.signed, IntKind.bits]
section
variable {α : Type} {t : Ty α} {iv : IV} {xs : List α}
theorem zlc (h : Reads t iv xs) : lenOf (.imm iv) = some xs.length := by
 obtain ⟨_, _, ⟨rfl, rfl⟩ | ⟨row, off, cap, rfl, _⟩⟩ := h
 ·rfl
 ·rfl
theorem zcj {β : Type} {l : List β} {o n : Nat} {r : List β} (h : cut l o n = some r) : r = (l.drop o).take n ∧ r.length = n := by
 unfold cut at h
 dsimp only at h
 split at h
 ·rename_i h1; cases h; exact ⟨rfl, h1⟩
 ·cases h
theorem cut_mk {β : Type} {l : List β} {o n : Nat} {r : List β} (h : (l.drop o).take n = r) (hl : r.length = n) : cut l o n = some r := by
 unfold cut
 dsimp only
 rw [h, if_pos hl]
theorem zcd {β : Type} {l : List β} {o n : Nat} {r : List β} (h : cut l o n = some r) {a b : Nat} (hab : a + b ≤ n) : cut l (o + a) b = cut r a b := by
 obtain ⟨rfl, hl⟩ := zcj h
 unfold cut
 dsimp only
 rw [List.drop_take, List.drop_drop, List.take_take]
 have : min b (n - a) = b := by omega
 rw [this]
theorem zer (h0 : ∀ x, (t.enc x).length = t.sz) : ∀ (xs : List α) (i k : Nat), i + k ≤ xs.length → cut (xs.flatMap t.enc) (i * t.sz) (k * t.sz) = some (((xs.drop i).take k).flatMap t.enc) := by
 intro xs i k hk
 refine cut_mk ?_ ?_
 ·have hdrop : ∀ (i : Nat) (l : List α), (l.flatMap t.enc).drop (i * t.sz) = (l.drop i).flatMap t.enc := by
   intro i
   induction i with
   | zero => intro l; simp
   | succ i ih =>
    intro l
    cases l with
    | nil => simp
    | cons x l =>
     rw [List.flatMap_cons, Nat.add_mul, Nat.one_mul, Nat.add_comm, List.drop_append]
     have hx := h0 x
     rw [List.drop_eq_nil_of_le (by omega)]
     have : t.sz + i * t.sz - (t.enc x).length = i * t.sz := by omega
     rw [this, ih]; simp
  have htake : ∀ (k : Nat) (l : List α), (l.flatMap t.enc).take (k * t.sz) = (l.take k).flatMap t.enc := by
   intro k
   induction k with
   | zero => intro l; simp
   | succ i ih =>
    intro l
    cases l with
    | nil => simp
    | cons x l =>
     rw [List.flatMap_cons, Nat.add_mul, Nat.one_mul, Nat.add_comm, List.take_append]
     have hx := h0 x
     rw [List.take_of_length_le (by omega)]
     have : t.sz + i * t.sz - (t.enc x).length = i * t.sz := by omega
     rw [this, ih]; simp
  rw [hdrop, htake]
 ·rw [zet _ _ h0]
  simp only [List.length_take, List.length_drop]
  congr 1
  omega
theorem zmc (t : Ty α) (xs : List α) : (t.row xs).length = xs.length * t.sz := zet _ _ t.len xs
theorem zeu {i : Nat} {x : α} (hx : xs[i]? = some x) : cut (t.row xs) (i * t.sz) t.sz = some (t.enc x) := by
 obtain ⟨hi, hxi⟩ := List.getElem?_eq_some_iff.1 hx
 have := zer t.len xs i 1 hi
 rw [Nat.one_mul] at this
 rw [Ty.row, this, List.drop_eq_getElem_cons hi, hxi]
 simp
theorem zld (h : Reads t iv xs) {i : Nat} {x : α} (hx : xs[i]? = some x) : ∃ row off cap, iv = .slice row off xs.length cap ∧ (∀ c, cap = some c → xs.length ≤ c) ∧ cut row off (xs.length * t.sz) = some (xs.flatMap t.enc) ∧
  cut row (off + i * t.sz) t.sz = some (t.enc x) := by
 obtain ⟨_, _, ⟨rfl, rfl⟩ | ⟨row, off, cap, rfl, hc, hcut⟩⟩ := h
 ·simp at hx
 ·refine ⟨row, off, cap, rfl, hc, hcut, ?_⟩
  have hi := (List.getElem?_eq_some_iff.1 hx)
  obtain ⟨hi, hxi⟩ := hi
  have : i * t.sz + t.sz ≤ xs.length * t.sz := by
   rw [← Nat.succ_mul]; exact Nat.mul_le_mul_right _ hi
  rw [zcd hcut this]
  have := zer t.len xs i 1 hi
  rw [Nat.one_mul] at this
  rw [this]
  congr 1
  rw [List.drop_eq_getElem_cons hi, hxi]
  simp
theorem zch {β : Type} {l : List β} {o : Nat} {y : β} (h : cut l o 1 = some [y]) : l[o]? = some y := by
 obtain ⟨h1, _⟩ := zcj h
 have : ((l.drop o).take 1)[0]? = some y := by rw [← h1]; rfl
 rw [List.getElem?_take, if_pos (by omega), List.getElem?_drop] at this
 simpa using this
theorem zle (t : Ty α) (xs : List α) {cap : Option Nat} (hw : ∀ x ∈ xs, t.wf x) (hl : xs.length ≤ 140737488355328) (hc : ∀ c, cap = some c → xs.length ≤ c) : Reads t (.slice (t.row xs) 0 xs.length cap) xs :=
 ⟨hw, hl, .inr ⟨_, 0, cap, rfl, hc, zcc _ (zmc t xs)⟩⟩
theorem znf {β : Type} : ∀ (ys l : List β) (o j : Nat), o + ys.length ≤ l.length → (setAll l o ys)[j]? = if o ≤ j ∧ j < o + ys.length then ys[j - o]? else l[j]?
 | [], l, o, j, h => by simp [setAll]; omega
 | y :: ys, l, o, j, h => by
  simp only [List.length_cons] at h ⊢
  rw [setAll, znf ys (l.set o y) (o + 1) j (by rw [List.length_set]; omega), List.getElem?_set]
  by_cases h1 : o = j
  ·subst h1
   have e1 : ¬ (o + 1 ≤ o ∧ o < o + 1 + ys.length) := by omega
   rw [if_neg e1, if_pos rfl, if_pos (by omega), if_pos (by omega)]
   simp
  ·by_cases h2 : o + 1 ≤ j ∧ j < o + 1 + ys.length
   ·have e3 : j - o = (j - (o + 1)) + 1 := by omega
    rw [if_pos h2, if_pos (by omega), e3]
    simp
   ·rw [if_neg h2, if_neg h1, if_neg (by omega)]
theorem zng (h0 : 0 < t.sz) {i : Nat} (hi : i < xs.length) (x : α) : setAll (t.row xs) (i * t.sz) (t.enc x) = t.row (xs.set i x) := by
 unfold Ty.row
 have hle : i * t.sz + (t.enc x).length ≤ (xs.flatMap t.enc).length := by
  rw [zet _ _ t.len, t.len, ← Nat.succ_mul]
  exact Nat.mul_le_mul_right _ hi
 refine List.ext_getElem? fun j => ?_
 rw [znf _ _ _ _ hle, zes _ _ h0 t.len, zes _ _ h0 t.len, t.len, List.getElem?_set]
 by_cases h : i * t.sz ≤ j ∧ j < i * t.sz + t.sz
 ·have h1 : j / t.sz = i := by
   exact Nat.div_eq_of_lt_le h.1 (by rw [Nat.add_mul, Nat.one_mul]; exact h.2)
  have h2 : j % t.sz = j - i * t.sz := by
   have := Nat.div_add_mod j t.sz
   rw [h1, Nat.mul_comm] at this
   omega
  rw [if_pos h, h1, h2, if_pos rfl, if_pos hi]; rfl
 ·have h1 : ¬ (i = j / t.sz) := by
   intro e
   have h2 := Nat.div_add_mod j t.sz
   have h3 := Nat.mod_lt j h0
   rw [← e, Nat.mul_comm] at h2
   omega
  rw [if_neg h, if_neg h1]
end
end Go.EX


set_option linter.unusedVariables false
set_option linter.unusedSimpArgs false
namespace Go.EX
structure Val where
 k : Int
 n : Int
 deriving DecidableEq
def tVal : Ty Val := ⟨2, true, fun v => [.val (.int .u8 v.k), .val (.int .i64 v.n)], fun v => (tInt .u8).wf v.k ∧ (tInt .i64).wf v.n, fun _ => rfl⟩
structure Obj where
 k : Int
 s : ByteArray
 l : Sl tVal
 room : Int
 fn : Int
def tObj : Ty Obj := ⟨5, true, fun o => [.val (.int .u8 o.k), .val (.string o.s), o.l.iv, .val (.int .i64 o.room), .val (.int .i64 o.fn)],
 fun o => (tInt .u8).wf o.k ∧ tStr.wf o.s ∧ (tInt .i64).wf o.room ∧ (tInt .i64).wf o.fn, fun _ => rfl⟩
end Go.EX


set_option linter.unusedVariables false
set_option linter.unusedSimpArgs false
namespace Go.EX
def code11 : Nat → Option XFun
 | 206 => some x206
 | 207 => some x207
 | 209 => some x209
 | 210 => some x210
 | 211 => some x211
 | 212 => some x212
 | 213 => some x213
 | 214 => some x214
 | 215 => some x215
 | 216 => some x216
 | 217 => some x217
 | 218 => some x218
 | 219 => some x219
 | 485 => some x485
 | 489 => some x489
 | 491 => some x491
 | 578 => some x578
 | 579 => some x579
 | 580 => some x580
 | 581 => some x581
 | 582 => some x582
 | 583 => some x583
 | 584 => some x584
 | 585 => some x585
 | 586 => some x586
 | 587 => some x587
 | 588 => some x588
 | 589 => some x589
 | 627 => some x627
 | 630 => some x630
 | 631 => some x631
 | 632 => some x632
 | 633 => some x633
 | 636 => some x636
 | 639 => some x639
 | 640 => some x640
 | 641 => some x641
 | 642 => some x642
 | 643 => some x643
 | 740 => some x740
 | 741 => some x741
 | 742 => some x742
 | 743 => some x743
 | 749 => some x749
 | 759 => some x759
 | 646 => some x646
 | 647 => some x647
 | 650 => some x650
 | 651 => some x651
 | 652 => some x652
 | 653 => some x653
 | 654 => some x654
 | 655 => some x655
 | 656 => some x656
 | 745 => some x745
 | 755 => some x755
 | _ => none
theorem zb5 : code11 yieldNo = none := by
 unfold code11
 split <;> first | (rename_i h; exact absurd h (by decide)) | rfl
theorem lives11 : callW code11 (fun _ _ _ => none) 489 [] [] = some (avb true, []) := (zbl code11 (fun _ _ _ => none)).2 ⟨60, by kernel_rfl⟩
end Go.EX


namespace Go.Proofs.YtedddogbgdbpmaaDoor
open Go.EX
theorem okL5 : FunOK Tryd.prog num 5 x489 := .of Tryd.func5 (by kernel_rfl) (by kernel_rfl) (by kernel_rfl) (by kernel_rfl) (by kernel_rfl)
theorem okL12 : FunOK Tryd.prog num 12 x646 := .of Tryd.func12 (by kernel_rfl) (by kernel_rfl) (by kernel_rfl) (by kernel_rfl) (by kernel_rfl)
theorem okL14 : FunOK Tryd.prog num 14 x627 := .of Tryd.func14 (by kernel_rfl) (by kernel_rfl) (by kernel_rfl) (by kernel_rfl) (by kernel_rfl)
theorem okL15 : FunOK Tryd.prog num 15 x632 := .of Tryd.func15 (by kernel_rfl) (by kernel_rfl) (by kernel_rfl) (by kernel_rfl) (by kernel_rfl)
theorem okL20 : FunOK Tryd.prog num 20 x656 := .of Tryd.func20 (by kernel_rfl) (by kernel_rfl) (by kernel_rfl) (by kernel_rfl) (by kernel_rfl)
theorem okL21 : FunOK Tryd.prog num 21 x745 := .of Tryd.func21 (by kernel_rfl) (by kernel_rfl) (by kernel_rfl) (by kernel_rfl) (by kernel_rfl)
theorem okL22 : FunOK Tryd.prog num 22 x654 := .of Tryd.func22 (by kernel_rfl) (by kernel_rfl) (by kernel_rfl) (by kernel_rfl) (by kernel_rfl)
theorem okL23 : FunOK Tryd.prog num 23 x647 := .of Tryd.func23 (by kernel_rfl) (by kernel_rfl) (by kernel_rfl) (by kernel_rfl) (by kernel_rfl)
theorem okL24 : FunOK Tryd.prog num 24 x652 := .of Tryd.func24 (by kernel_rfl) (by kernel_rfl) (by kernel_rfl) (by kernel_rfl) (by kernel_rfl)
theorem okL29 : FunOK Tryd.prog num 29 x641 := .of Tryd.func29 (by kernel_rfl) (by kernel_rfl) (by kernel_rfl) (by kernel_rfl) (by kernel_rfl)
theorem okL34 : FunOK Tryd.prog num 34 x651 := .of Tryd.func34 (by kernel_rfl) (by kernel_rfl) (by kernel_rfl) (by kernel_rfl) (by kernel_rfl)
theorem okL35 : FunOK Tryd.prog num 35 x755 := .of Tryd.func35 (by kernel_rfl) (by kernel_rfl) (by kernel_rfl) (by kernel_rfl) (by kernel_rfl)
theorem okL36 : FunOK Tryd.prog num 36 x655 := .of Tryd.func36 (by kernel_rfl) (by kernel_rfl) (by kernel_rfl) (by kernel_rfl) (by kernel_rfl)
theorem okL37 : FunOK Tryd.prog num 37 x653 := .of Tryd.func37 (by kernel_rfl) (by kernel_rfl) (by kernel_rfl) (by kernel_rfl) (by kernel_rfl)
theorem okL38 : FunOK Tryd.prog num 38 x650 := .of Tryd.func38 (by kernel_rfl) (by kernel_rfl) (by kernel_rfl) (by kernel_rfl) (by kernel_rfl)
theorem okL46 : FunOK Tryd.prog num 46 x219 := .of Tryd.func46 (by kernel_rfl) (by kernel_rfl) (by kernel_rfl) (by kernel_rfl) (by kernel_rfl)
theorem okL47 : FunOK Tryd.prog num 47 x207 := .of Tryd.func47 (by kernel_rfl) (by kernel_rfl) (by kernel_rfl) (by kernel_rfl) (by kernel_rfl)
theorem okL50 : FunOK Tryd.prog num 50 x210 := .of Tryd.func50 (by kernel_rfl) (by kernel_rfl) (by kernel_rfl) (by kernel_rfl) (by kernel_rfl)
theorem okL51 : FunOK Tryd.prog num 51 x588 := .of Tryd.func51 (by kernel_rfl) (by kernel_rfl) (by kernel_rfl) (by kernel_rfl) (by kernel_rfl)
theorem okL61 : FunOK Tryd.prog num 61 x579 := .of Tryd.func61 (by kernel_rfl) (by kernel_rfl) (by kernel_rfl) (by kernel_rfl) (by kernel_rfl)
theorem okL67 : FunOK Tryd.prog num 67 x582 := .of Tryd.func67 (by kernel_rfl) (by kernel_rfl) (by kernel_rfl) (by kernel_rfl) (by kernel_rfl)
theorem okL68 : FunOK Tryd.prog num 68 x589 := .of Tryd.func68 (by kernel_rfl) (by kernel_rfl) (by kernel_rfl) (by kernel_rfl) (by kernel_rfl)
theorem okL72 : FunOK Tryd.prog num 72 x583 := .of Tryd.func72 (by kernel_rfl) (by kernel_rfl) (by kernel_rfl) (by kernel_rfl) (by kernel_rfl)
theorem okL73 : FunOK Tryd.prog num 73 x584 := .of Tryd.func73 (by kernel_rfl) (by kernel_rfl) (by kernel_rfl) (by kernel_rfl) (by kernel_rfl)
theorem okL74 : FunOK Tryd.prog num 74 x585 := .of Tryd.func74 (by kernel_rfl) (by kernel_rfl) (by kernel_rfl) (by kernel_rfl) (by kernel_rfl)
theorem okL75 : FunOK Tryd.prog num 75 x586 := .of Tryd.func75 (by kernel_rfl) (by kernel_rfl) (by kernel_rfl) (by kernel_rfl) (by kernel_rfl)
theorem okL76 : FunOK Tryd.prog num 76 x587 := .of Tryd.func76 (by kernel_rfl) (by kernel_rfl) (by kernel_rfl) (by kernel_rfl) (by kernel_rfl)
abbrev FnAtL (f : Nat) : Prop := ∀ xf, code11 (num f) = some xf → FunOK Tryd.prog num f xf
theorem hitL {n : Nat} {x : XFun} (e : code11 (num n) = some x) (k : FunOK Tryd.prog num n x) (r : ∀ f, f < n → FnAtL f) : ∀ f, f < n + 1 → FnAtL f := fun f h xf hx => by
 rcases Nat.lt_or_eq_of_le (Nat.le_of_lt_succ h) with h | rfl
 ·exact r f h xf hx
 ·rw [e] at hx; cases hx; exact k
theorem nixL {n : Nat} (e : code11 (num n) = none) (r : ∀ f, f < n → FnAtL f) : ∀ f, f < n + 1 → FnAtL f := fun f h xf hx => by
 rcases Nat.lt_or_eq_of_le (Nat.le_of_lt_succ h) with h | rfl
 ·exact r f h xf hx
 ·rw [e] at hx; cases hx
theorem uptoL20 : ∀ f, f < 20 → FnAtL f :=
 nixL (by kernel_rfl) <|
 hitL (by kernel_rfl) ok18 <|
 nixL (by kernel_rfl) <|
 nixL (by kernel_rfl) <|
 hitL (by kernel_rfl) okL15 <|
 hitL (by kernel_rfl) okL14 <|
 nixL (by kernel_rfl) <|
 hitL (by kernel_rfl) okL12 <|
 nixL (by kernel_rfl) <|
 hitL (by kernel_rfl) ok10 <|
 hitL (by kernel_rfl) ok9 <|
 hitL (by kernel_rfl) ok8 <|
 hitL (by kernel_rfl) ok7 <|
 hitL (by kernel_rfl) ok6 <|
 hitL (by kernel_rfl) okL5 <|
 nixL (by kernel_rfl) <|
 nixL (by kernel_rfl) <|
 nixL (by kernel_rfl) <|
 nixL (by kernel_rfl) <|
 nixL (by kernel_rfl) (fun f h => absurd h (Nat.not_lt_zero f))
theorem uptoL40 : ∀ f, f < 40 → FnAtL f :=
 nixL (by kernel_rfl) <|
 hitL (by kernel_rfl) okL38 <|
 hitL (by kernel_rfl) okL37 <|
 hitL (by kernel_rfl) okL36 <|
 hitL (by kernel_rfl) okL35 <|
 hitL (by kernel_rfl) okL34 <|
 nixL (by kernel_rfl) <|
 hitL (by kernel_rfl) ok32 <|
 hitL (by kernel_rfl) ok31 <|
 hitL (by kernel_rfl) ok30 <|
 hitL (by kernel_rfl) okL29 <|
 hitL (by kernel_rfl) ok28 <|
 hitL (by kernel_rfl) ok27 <|
 nixL (by kernel_rfl) <|
 nixL (by kernel_rfl) <|
 hitL (by kernel_rfl) okL24 <|
 hitL (by kernel_rfl) okL23 <|
 hitL (by kernel_rfl) okL22 <|
 hitL (by kernel_rfl) okL21 <|
 hitL (by kernel_rfl) okL20 uptoL20
theorem uptoL60 : ∀ f, f < 60 → FnAtL f :=
 hitL (by kernel_rfl) ok59 <|
 nixL (by kernel_rfl) <|
 nixL (by kernel_rfl) <|
 hitL (by kernel_rfl) ok56 <|
 hitL (by kernel_rfl) ok55 <|
 hitL (by kernel_rfl) ok54 <|
 nixL (by kernel_rfl) <|
 hitL (by kernel_rfl) ok52 <|
 hitL (by kernel_rfl) okL51 <|
 hitL (by kernel_rfl) okL50 <|
 hitL (by kernel_rfl) ok49 <|
 hitL (by kernel_rfl) ok48 <|
 hitL (by kernel_rfl) okL47 <|
 hitL (by kernel_rfl) okL46 <|
 hitL (by kernel_rfl) ok45 <|
 hitL (by kernel_rfl) ok44 <|
 hitL (by kernel_rfl) ok43 <|
 hitL (by kernel_rfl) ok42 <|
 hitL (by kernel_rfl) ok41 <|
 hitL (by kernel_rfl) ok40 uptoL40
theorem uptoL80 : ∀ f, f < 80 → FnAtL f :=
 nixL (by kernel_rfl) <|
 nixL (by kernel_rfl) <|
 nixL (by kernel_rfl) <|
 hitL (by kernel_rfl) okL76 <|
 hitL (by kernel_rfl) okL75 <|
 hitL (by kernel_rfl) okL74 <|
 hitL (by kernel_rfl) okL73 <|
 hitL (by kernel_rfl) okL72 <|
 nixL (by kernel_rfl) <|
 nixL (by kernel_rfl) <|
 nixL (by kernel_rfl) <|
 hitL (by kernel_rfl) okL68 <|
 hitL (by kernel_rfl) okL67 <|
 nixL (by kernel_rfl) <|
 hitL (by kernel_rfl) ok65 <|
 hitL (by kernel_rfl) ok64 <|
 nixL (by kernel_rfl) <|
 hitL (by kernel_rfl) ok62 <|
 hitL (by kernel_rfl) okL61 <|
 hitL (by kernel_rfl) ok60 uptoL60
theorem uptoL100 : ∀ f, f < 100 → FnAtL f :=
 nixL (by kernel_rfl) <|
 nixL (by kernel_rfl) <|
 nixL (by kernel_rfl) <|
 nixL (by kernel_rfl) <|
 nixL (by kernel_rfl) <|
 nixL (by kernel_rfl) <|
 nixL (by kernel_rfl) <|
 nixL (by kernel_rfl) <|
 nixL (by kernel_rfl) <|
 nixL (by kernel_rfl) <|
 nixL (by kernel_rfl) <|
 nixL (by kernel_rfl) <|
 nixL (by kernel_rfl) <|
 nixL (by kernel_rfl) <|
 nixL (by kernel_rfl) <|
 nixL (by kernel_rfl) <|
 nixL (by kernel_rfl) <|
 nixL (by kernel_rfl) <|
 nixL (by kernel_rfl) <|
 nixL (by kernel_rfl) uptoL80
theorem uptoL120 : ∀ f, f < 120 → FnAtL f :=
 nixL (by kernel_rfl) <|
 nixL (by kernel_rfl) <|
 nixL (by kernel_rfl) <|
 nixL (by kernel_rfl) <|
 nixL (by kernel_rfl) <|
 nixL (by kernel_rfl) <|
 nixL (by kernel_rfl) <|
 nixL (by kernel_rfl) <|
 nixL (by kernel_rfl) <|
 nixL (by kernel_rfl) <|
 nixL (by kernel_rfl) <|
 nixL (by kernel_rfl) <|
 nixL (by kernel_rfl) <|
 nixL (by kernel_rfl) <|
 nixL (by kernel_rfl) <|
 nixL (by kernel_rfl) <|
 nixL (by kernel_rfl) <|
 nixL (by kernel_rfl) <|
 nixL (by kernel_rfl) <|
 nixL (by kernel_rfl) uptoL100
theorem fnsL (f : FuncId) (xf : XFun) (h : code11 (num f) = some xf) : FunOK Tryd.prog num f xf := by
 by_cases hf : f < 120
 ·exact uptoL120 f hf xf h
 ·have hn : num f = 100000 + f := by
   unfold num
   rw [List.getElem?_eq_none (by rw [show gids.length = 120 from by kernel_rfl]; simp only [FuncId] at *; omega)]; rfl
  rw [hn] at h
  unfold code11 at h
  split at h <;> first | (exfalso; simp only [FuncId] at *; omega) | cases h
end Go.Proofs.YtedddogbgdbpmaaDoor

