import Derived.Test.YtjdfihnmpmckjaaGreatDoorK8
import Derived.Test.YtjdfihnmpmckjaaGreatDoorK7
namespace Go.EX
def x485:XFun:=
 ⟨[.tmp 4],(.seq (.region [0,1] [o0 4 (.mv (.c (.bool false)))]) (.seq (.region [0,1,5] [o0 13 (.mv (.t 0)),
 o0 14 (.call .view 491 [.t 13]),
 o0 15 (.mv (.t 1)),
 o0 16 (.call .view 491 [.t 15]),
 o0 17 (.call .look 627 [(.c (.slice none 0 0)),(.c (.int .u8 1)),(.t 14),(.t 16)]),
 o0 5 (.alloc [(.slice none 0 0),(.int .u8 0),(.int .i64 0),(.string .empty),(.int .i64 0)]),
 o2 (.store 5 (.t 5) (.t 17))]) (.seq (.region [0,1,5,6] [o0 18 (.fieldA 1 (.t 5)),
 o0 19 (.load (some 2) (.t 18)),
 o0 20 (.mv (.t 1)),
 o0 21 (.call .view 491 [.t 20]),
 o0 22 (.call .look 627 [(.c (.slice none 0 0)),(.c (.int .u8 2)),(.t 19),(.t 21)]),
 o0 6 (.alloc [(.slice none 0 0),(.int .u8 0),(.int .i64 0),(.string .empty),(.int .i64 0)]),
 o2 (.store 5 (.t 6) (.t 22))]) (.seq (.seq (.region [0,1,32] [o0 23 (.fieldA 1 (.t 6)),
 o0 24 (.load (some 2) (.t 23)),
 o0 25 (.mv (.t 0)),
 o0 26 (.call .view 491 [.t 25]),
 o0 27 (.eqCells true [0,0] (.t 24) (.t 26)),
 o0 28 (.mv (.t 27)),
 o1 29 28 false (.fieldA 4 (.t 5)),
 o1 30 28 false (.load none (.t 29)),
 o1 31 28 false (.bin .neq (.t 30) (.c (.int .i64 0))),
 o0 32 (.pick (.t 28) (.c (.bool true)) (.t 31))]) (.cond (.t 32) (.seq (.region [4] [o0 4 (.mv (.c (.bool false)))]) .ret) .skip)) (.seq (.region [0,1,7] [o0 33 (.mv (.t 0)),
 o0 34 (.call .view 491 [.t 33]),
 o0 35 (.mv (.t 1)),
 o0 36 (.call .view 491 [.t 35]),
 o0 37 (.call .look 627 [(.c (.slice none 0 0)),(.c (.int .u8 6)),(.t 34),(.t 36)]),
 o0 38 (.field 1 (some 2) (.t 37)),
 o0 39 (.field 1 none (.t 38)),
 o0 7 (.mv (.t 39))]) (.seq (.region [0,1,7,8] [o0 40 (.mv (.t 1)),
 o0 41 (.call .view 491 [.t 40]),
 o0 42 (.mv (.t 0)),
 o0 43 (.call .view 491 [.t 42]),
 o0 44 (.call .look 627 [(.c (.slice none 0 0)),(.c (.int .u8 7)),(.t 41),(.t 43)]),
 o0 45 (.field 1 (some 2) (.t 44)),
 o0 46 (.field 1 none (.t 45)),
 o0 8 (.mv (.t 46))]) (.seq (.seq (.region [0,1,50] [o0 47 (.mv (.t 7)),
 o0 48 (.mv (.t 8)),
 o0 49 (.bin .add (.t 47) (.t 48)),
 o0 50 (.bin .neq (.t 49) (.c (.int .i64 1)))]) (.cond (.t 50) (.seq (.region [4] [o0 4 (.mv (.c (.bool false)))]) .ret) .skip)) (.seq (.region [0,1,9] [o0 51 (.mv (.t 0)),
 o0 52 (.call .view 491 [.t 51]),
 o0 53 (.mv (.t 1)),
 o0 54 (.call .view 491 [.t 53]),
 o0 55 (.call .look 627 [(.c (.slice none 0 0)),(.c (.int .u8 4)),(.t 52),(.t 54)]),
 o0 9 (.alloc [(.slice none 0 0),(.int .u8 0),(.int .i64 0),(.string .empty),(.int .i64 0)]),
 o2 (.store 5 (.t 9) (.t 55))]) (.seq (.region [0,1,9,10] [o0 56 (.mv (.t 0)),
 o0 57 (.call .view 491 [.t 56]),
 o0 58 (.mv (.t 1)),
 o0 59 (.call .view 491 [.t 58]),
 o0 60 (.call .look 627 [(.c (.slice none 0 0)),(.c (.int .u8 5)),(.t 57),(.t 59)]),
 o0 10 (.alloc [(.slice none 0 0),(.int .u8 0),(.int .i64 0),(.string .empty),(.int .i64 0)]),
 o2 (.store 5 (.t 10) (.t 60))]) (.seq (.seq (.region [0,1,9,10,62] [o0 61 (.mv (.t 1)),
 o0 62 (.bin .eql (.t 61) (.c (.int .i64 0)))]) (.cond (.t 62) (.seq (.region [4] [o0 63 (.fieldA 3 (.t 9)),
 o0 64 (.load none (.t 63)),
 o0 65 (.bin .eql (.t 64) (.c (.string ⟨#[122,101,114,111]⟩))),
 o0 66 (.mv (.t 65)),
 o1 67 66 true (.fieldA 3 (.t 10)),
 o1 68 66 true (.load none (.t 67)),
 o1 69 66 true (.bin .eql (.t 68) (.c (.string ⟨#[122,101,114,111]⟩))),
 o0 70 (.pick (.t 66) (.t 69) (.c (.bool false))),
 o0 71 (.mv (.t 70)),
 o1 72 71 true (.call .view 489 []),
 o0 73 (.pick (.t 71) (.t 72) (.c (.bool false))),
 o0 4 (.mv (.t 73))]) .ret) .skip)) (.seq (.region [0,10,11] [o0 74 (.fieldA 1 (.t 9)),
 o0 75 (.load (some 2) (.t 74)),
 o0 76 (.mv (.t 1)),
 o0 77 (.call .view 491 [.t 76]),
 o0 78 (.call .look 627 [(.c (.slice none 0 0)),(.c (.int .u8 3)),(.t 75),(.t 77)]),
 o0 11 (.alloc [(.slice none 0 0),(.int .u8 0),(.int .i64 0),(.string .empty),(.int .i64 0)]),
 o2 (.store 5 (.t 11) (.t 78))]) (.seq (.region [0,12] [o0 79 (.fieldA 1 (.t 11)),
 o0 80 (.load (some 2) (.t 79)),
 o0 81 (.fieldA 1 (.t 10)),
 o0 82 (.load (some 2) (.t 81)),
 o0 83 (.call .look 627 [(.c (.slice none 0 0)),(.c (.int .u8 1)),(.t 80),(.t 82)]),
 o0 12 (.alloc [(.slice none 0 0),(.int .u8 0),(.int .i64 0),(.string .empty),(.int .i64 0)]),
 o2 (.store 5 (.t 12) (.t 83))]) (.seq (.region [4] [o0 84 (.fieldA 1 (.t 12)),
 o0 85 (.load (some 2) (.t 84)),
 o0 86 (.mv (.t 0)),
 o0 87 (.call .view 491 [.t 86]),
 o0 88 (.eqCells false [0,0] (.t 85) (.t 87)),
 o0 89 (.mv (.t 88)),
 o1 90 89 true (.call .view 489 []),
 o0 91 (.pick (.t 89) (.t 90) (.c (.bool false))),
 o0 4 (.mv (.t 91))]) .ret)))))))))))))⟩
def x627:XFun:=
 ⟨[.cell 8 (some 5)],(.seq (.region [0,1,6,7,8] [o0 6 (.box 2 (.t 2)),
 o0 7 (.box 2 (.t 3)),
 o0 8 (.alloc [(.slice none 0 0),(.int .u8 0),(.int .i64 0),(.string .empty),(.int .i64 0)])]) (.seq (.region [8] [o0 9 (.mv (.t 0)),
 o0 10 (.mv (.t 1)),
 o0 11 (.conv .i64 (.t 10)),
 o0 12 (.load (some 2) (.t 6)),
 o0 13 (.load (some 2) (.t 7)),
 o0 14 (.buildSlice 2 [(.int .u8 0),(.int .i64 0)] 2 [(0,2,(.t 12)),(2,2,(.t 13))]),
 o0 15 (.call .share 640 [(.t 9),(.c (.int .u8 14)),(.t 11),(.t 14)]),
 o2 (.store 5 (.t 8) (.t 15))]) .ret))⟩
def x491:XFun:=
 ⟨[.cell 2 (some 2)],(.seq (.region [0,2] [o0 2 (.alloc [(.int .u8 0),(.int .i64 0)])]) (.seq (.region [2] [o0 3 (.mv (.t 0)),
 o0 4 (.build [(.int .u8 0),(.int .i64 0)] [(0,1,(.c (.int .u8 2))),(1,1,(.t 3))]),
 o2 (.store 2 (.t 2) (.t 4))]) .ret))⟩
def x489:XFun:=
 ⟨[.tmp 0],(.seq (.region [] [o0 0 (.mv (.c (.bool false)))]) (.seq (.region [1] [o0 5 (.call .view 491 [(.c (.int .i64 1))]),
 o0 6 (.call .view 491 [(.c (.int .i64 2))]),
 o0 7 (.buildSlice 2 [(.int .u8 0),(.int .i64 0)] 2 [(0,2,(.t 5)),(2,2,(.t 6))]),
 o0 8 (.call .look 632 [(.c (.slice none 0 0)),(.t 7)]),
 o0 1 (.alloc [(.slice none 0 0),(.int .u8 0),(.int .i64 0),(.string .empty),(.int .i64 0)]),
 o2 (.store 5 (.t 1) (.t 8))]) (.seq (.region [1,2] [o0 9 (.fieldA 0 (.t 1)),
 o0 10 (.load none (.t 9)),
 o0 11 (.fieldA 1 (.t 1)),
 o0 12 (.load (some 2) (.t 11)),
 o0 13 (.call .view 491 [(.c (.int .i64 2))]),
 o0 14 (.call .view 491 [(.c (.int .i64 9))]),
 o0 15 (.call .look 636 [(.t 10),(.t 12),(.t 13),(.t 14)]),
 o0 2 (.alloc [(.slice none 0 0),(.int .u8 0),(.int .i64 0),(.string .empty),(.int .i64 0)]),
 o2 (.store 5 (.t 2) (.t 15))]) (.seq (.region [1,2,3] [o0 16 (.fieldA 0 (.t 2)),
 o0 17 (.load none (.t 16)),
 o0 18 (.fieldA 1 (.t 1)),
 o0 19 (.load (some 2) (.t 18)),
 o0 20 (.call .view 491 [(.c (.int .i64 2))]),
 o0 21 (.call .look 630 [(.t 17),(.t 19),(.t 20)]),
 o0 3 (.alloc [(.slice none 0 0),(.int .u8 0),(.int .i64 0),(.string .empty),(.int .i64 0)]),
 o2 (.store 5 (.t 3) (.t 21))]) (.seq (.region [1,2,3,4] [o0 22 (.fieldA 0 (.t 1)),
 o0 23 (.load none (.t 22)),
 o0 24 (.fieldA 1 (.t 1)),
 o0 25 (.load (some 2) (.t 24)),
 o0 26 (.call .view 491 [(.c (.int .i64 2))]),
 o0 27 (.call .look 630 [(.t 23),(.t 25),(.t 26)]),
 o0 4 (.alloc [(.slice none 0 0),(.int .u8 0),(.int .i64 0),(.string .empty),(.int .i64 0)]),
 o2 (.store 5 (.t 4) (.t 27))]) (.seq (.region [0] [o0 28 (.fieldA 4 (.t 1)),
 o0 29 (.load none (.t 28)),
 o0 30 (.bin .eql (.t 29) (.c (.int .i64 8))),
 o0 31 (.mv (.t 30)),
 o1 32 31 true (.fieldA 4 (.t 2)),
 o1 33 31 true (.load none (.t 32)),
 o1 34 31 true (.bin .eql (.t 33) (.c (.int .i64 9))),
 o0 35 (.pick (.t 31) (.t 34) (.c (.bool false))),
 o0 36 (.mv (.t 35)),
 o1 37 36 true (.fieldA 1 (.t 3)),
 o1 38 36 true (.load (some 2) (.t 37)),
 o1 39 36 true (.call .view 491 [(.c (.int .i64 9))]),
 o1 40 36 true (.eqCells false [0,0] (.t 38) (.t 39)),
 o0 41 (.pick (.t 36) (.t 40) (.c (.bool false))),
 o0 42 (.mv (.t 41)),
 o1 43 42 true (.fieldA 3 (.t 4)),
 o1 44 42 true (.load none (.t 43)),
 o1 45 42 true (.bin .eql (.t 44) (.c (.string ⟨#[98,111,117,110,100,115]⟩))),
 o0 46 (.pick (.t 42) (.t 45) (.c (.bool false))),
 o0 47 (.mv (.t 46)),
 o1 48 47 true (.call .view 491 [(.c (.int .i64 1))]),
 o1 49 47 true (.call .view 491 [(.c (.int .i64 0))]),
 o1 50 47 true (.call .look 627 [(.c (.slice none 0 0)),(.c (.int .u8 4)),(.t 48),(.t 49)]),
 o1 51 47 true (.field 3 none (.t 50)),
 o1 52 47 true (.bin .eql (.t 51) (.c (.string ⟨#[122,101,114,111]⟩))),
 o0 53 (.pick (.t 47) (.t 52) (.c (.bool false))),
 o0 0 (.mv (.t 53))]) .ret))))))⟩
def x633:XFun:=
 ⟨[.cell 4 (some 5)],(.seq (.region [0,1,4] [o0 4 (.alloc [(.slice none 0 0),(.int .u8 0),(.int .i64 0),(.string .empty),(.int .i64 0)])]) (.seq (.region [4] [o0 5 (.mv (.t 0)),
 o0 6 (.mv (.t 1)),
 o0 7 (.call .share 640 [(.t 5),(.c (.int .u8 23)),(.c (.int .i64 0)),(.t 6)]),
 o2 (.store 5 (.t 4) (.t 7))]) .ret))⟩
def x636:XFun:=
 ⟨[.cell 8 (some 5)],(.seq (.region [0,5,6,7,8] [o0 5 (.box 2 (.t 1)),
 o0 6 (.box 2 (.t 2)),
 o0 7 (.box 2 (.t 3)),
 o0 8 (.alloc [(.slice none 0 0),(.int .u8 0),(.int .i64 0),(.string .empty),(.int .i64 0)])]) (.seq (.region [8] [o0 9 (.mv (.t 0)),
 o0 10 (.load (some 2) (.t 5)),
 o0 11 (.load (some 2) (.t 6)),
 o0 12 (.load (some 2) (.t 7)),
 o0 13 (.buildSlice 2 [(.int .u8 0),(.int .i64 0)] 3 [(0,2,(.t 10)),(2,2,(.t 11)),(4,2,(.t 12))]),
 o0 14 (.call .share 640 [(.t 9),(.c (.int .u8 25)),(.c (.int .i64 0)),(.t 13)]),
 o2 (.store 5 (.t 8) (.t 14))]) .ret))⟩
def x631:XFun:=
 ⟨[.cell 4 (some 5)],(.seq (.region [0,3,4] [o0 3 (.box 2 (.t 1)),
 o0 4 (.alloc [(.slice none 0 0),(.int .u8 0),(.int .i64 0),(.string .empty),(.int .i64 0)])]) (.seq (.region [4] [o0 5 (.mv (.t 0)),
 o0 6 (.load (some 2) (.t 3)),
 o0 7 (.buildSlice 2 [(.int .u8 0),(.int .i64 0)] 1 [(0,2,(.t 6))]),
 o0 8 (.call .share 640 [(.t 5),(.c (.int .u8 17)),(.c (.int .i64 0)),(.t 7)]),
 o2 (.store 5 (.t 4) (.t 8))]) .ret))⟩
def x630:XFun:=
 ⟨[.cell 6 (some 5)],(.seq (.region [0,4,5,6] [o0 4 (.box 2 (.t 1)),
 o0 5 (.box 2 (.t 2)),
 o0 6 (.alloc [(.slice none 0 0),(.int .u8 0),(.int .i64 0),(.string .empty),(.int .i64 0)])]) (.seq (.region [6] [o0 7 (.mv (.t 0)),
 o0 8 (.load (some 2) (.t 4)),
 o0 9 (.load (some 2) (.t 5)),
 o0 10 (.buildSlice 2 [(.int .u8 0),(.int .i64 0)] 2 [(0,2,(.t 8)),(2,2,(.t 9))]),
 o0 11 (.call .share 640 [(.t 7),(.c (.int .u8 24)),(.c (.int .i64 0)),(.t 10)]),
 o2 (.store 5 (.t 6) (.t 11))]) .ret))⟩
def x487:XFun:=
 ⟨[.tmp 2],(.seq (.region [0] [o0 2 (.mv (.c (.bool false)))]) (.seq (.region [2] [o0 3 (.mv (.t 0)),
 o0 4 (.call .view 361 [.t 3]),
 o0 5 (.bin .gtr (.t 4) (.c (.int .i64 50000))),
 o0 2 (.mv (.t 5))]) .ret))⟩
def x632:XFun:=
 ⟨[.cell 4 (some 5)],(.seq (.region [0,1,4] [o0 4 (.alloc [(.slice none 0 0),(.int .u8 0),(.int .i64 0),(.string .empty),(.int .i64 0)])]) (.seq (.region [4] [o0 5 (.mv (.t 0)),
 o0 6 (.mv (.t 1)),
 o0 7 (.call .share 640 [(.t 5),(.c (.int .u8 22)),(.c (.int .i64 0)),(.t 6)]),
 o2 (.store 5 (.t 4) (.t 7))]) .ret))⟩
def x355:XFun:=
 ⟨[.tmp 4],(.seq (.region [0,1] [o0 4 (.mv (.c (.bool false)))]) (.seq (.region [4] [o0 5 (.mv (.t 0)),
 o0 6 (.mv (.t 1)),
 o0 7 (.call .view 352 [(.t 5),(.t 6)]),
 o0 4 (.mv (.t 7))]) .ret))⟩
def x640:XFun:=
 ⟨[.cell 8 (some 5)],(.seq (.region [1,2,3,4,8] [o0 4 (.box 1 (.t 0)),
 o0 8 (.alloc [(.slice none 0 0),(.int .u8 0),(.int .i64 0),(.string .empty),(.int .i64 0)])]) (.seq (.region [1,2,3,4,8,9] [o0 13 (.load none (.t 4)),
 o0 14 (.call .look 643 [.t 13]),
 o0 9 (.mv (.t 14))]) (.seq (.seq (.region [1,2,3,8,9,17] [o0 15 (.mv (.t 3)),
 o0 16 (.mkClo 641 [.t 4]),
 o0 17 (.call .share 749 [(.t 15),(.t 16)])]) (.cond (.t 17) (.seq (.region [8] [o0 18 (.mv (.t 9)),
 o0 19 (.build [(.slice none 0 0),(.int .u8 0),(.int .i64 0),(.string .empty),(.int .i64 0)] [(0,1,(.t 18)),(3,1,(.c (.string ⟨#[107,105,110,100]⟩)))]),
 o2 (.store 5 (.t 8) (.t 19))]) .ret) .skip)) (.seq (.region [1,2,3,8,9,10] [o0 20 (.mv (.t 9)),
 o0 21 (.build [(.slice none 0 0),(.int .i64 0),(.int .i64 0)] [(0,1,(.t 20)),(1,1,(.c (.int .i64 1152921504606846976)))]),
 o0 22 (.box 3 (.t 21)),
 o0 10 (.mv (.t 22))]) (.seq (.region [1,2,3,8,10,11] [o0 23 (.mv (.t 9)),
 o0 24 (.call .own 642 [.t 23]),
 o0 11 (.mv (.t 24))]) (.seq (.region [8,10,11,12] [o0 25 (.mv (.t 10)),
 o0 26 (.mv (.t 1)),
 o0 27 (.mv (.t 2)),
 o0 28 (.mv (.t 3)),
 o0 29 (.build [(.int .u8 0),(.int .i64 0),(.slice none 0 0),(.slice none 0 0)] [(0,1,(.t 26)),(1,1,(.t 27)),(2,1,(.t 28))]),
 o0 30 (.call .share 206 [(.t 25),(.t 29)]),
 o0 12 (.alloc [(.int .u8 0),(.int .i64 0),(.string .empty),(.bool false)]),
 o2 (.store 4 (.t 12) (.t 30))]) (.seq (.region [8] [o0 31 (.mv (.t 10)),
 o0 32 (.nilCheck (.t 31)),
 o0 33 (.fieldA 0 (.t 32)),
 o0 34 (.load none (.t 33)),
 o0 35 (.call .look 643 [.t 34]),
 o0 36 (.fieldA 0 (.t 12)),
 o0 37 (.load (some 2) (.t 36)),
 o0 38 (.fieldA 2 (.t 12)),
 o0 39 (.load none (.t 38)),
 o0 40 (.mv (.t 10)),
 o0 41 (.nilCheck (.t 40)),
 o0 42 (.fieldA 0 (.t 41)),
 o0 43 (.load none (.t 42)),
 o0 44 (.mv (.t 11)),
 o0 45 (.call .view 639 [(.t 43),(.t 44)]),
 o0 46 (.build [(.slice none 0 0),(.int .u8 0),(.int .i64 0),(.string .empty),(.int .i64 0)] [(0,1,(.t 35)),(1,2,(.t 37)),(3,1,(.t 39)),(4,1,(.t 45))]),
 o2 (.store 5 (.t 8) (.t 46))]) .ret)))))))⟩
def x352L1:XCode:=
 (.seq (.seq (.region [0,1,5,14] [o0 11 (.mv (.t 5)),
 o0 12 (.mv (.t 0)),
 o0 13 (.len (.t 12)),
 o0 14 (.bin .lss (.t 11) (.t 13))]) (.cond (.t 14) .skip (.exit 0))) (.seq (.block 1 (.seq (.region [0,1,5,26] [o0 17 (.mv (.t 0)),
 o0 18 (.mv (.t 5)),
 o0 19 (.idxA 5 (.t 17) (.t 18)),
 o0 20 (.load (some 5) (.t 19)),
 o0 21 (.mv (.t 1)),
 o0 22 (.mv (.t 5)),
 o0 23 (.idxA 5 (.t 21) (.t 22)),
 o0 24 (.load (some 5) (.t 23)),
 o0 25 (.call .view 351 [(.t 20),(.t 24)]),
 o0 26 (.un .not (.t 25))]) (.cond (.t 26) (.seq (.region [4] [o0 4 (.mv (.c (.bool false)))]) .ret) .skip))) (.region [0,1,5] [o0 15 (.mv (.t 5)),
 o0 16 (.bin .add (.t 15) (.c (.int .i64 1))),
 o0 5 (.mv (.t 16))])))
@[simp] def sameC111f(c0:XCode):XFun:=
 ⟨[.tmp 4],(.seq (.region [0,1] [o0 4 (.mv (.c (.bool false)))]) (.seq (.seq (.region [0,1,10] [o0 6 (.mv (.t 0)),o0 7 (.len (.t 6)),o0 8 (.mv (.t 1)),o0 9 (.len (.t 8)),o0 10 (.bin .neq (.t 7) (.t 9))]) (.cond (.t 10) (.seq (.region [4] [o0 4 (.mv (.c (.bool false)))]) .ret) .skip)) (.seq (.seq (.region [0,1,5] [o0 5 (.mv (.c (.int .i64 0)))]) (.block 0 (.loop [0,1,5] c0))) (.seq (.region [4] [o0 4 (.mv (.c (.bool true)))]) .ret))))⟩
def x352:XFun:=
 sameC111f x352L1
def x643L1:XCode:=
 (.seq (.region [3,8,9,10] [o0 10 (.bin .lss (.t 9) (.t 8))]) (.seq (.cond (.t 10) .skip (.exit 0)) (.seq (.block 1 (.seq (.region [3,4,8,9] [o0 11 (.mv (.t 9)),
 o0 4 (.mv (.t 11))]) (.region [3,8,9] [o0 12 (.mv (.t 3)),
 o0 13 (.mv (.t 4)),
 o0 14 (.mv (.t 3)),
 o0 15 (.mv (.t 4)),
 o0 16 (.idxA 5 (.t 14) (.t 15)),
 o0 17 (.fieldA 2 (.t 16)),
 o0 18 (.load none (.t 17)),
 o0 19 (.call .own 742 [.t 18]),
 o0 20 (.call .share 740 [.t 19]),
 o0 21 (.idxA 5 (.t 12) (.t 13)),
 o0 22 (.fieldA 2 (.t 21)),
 o2 (.store 1 (.t 22) (.t 20))]))) (.region [3,8,9] [o0 23 (.bin .add (.t 9) (.c (.int .i64 1))),
 o0 9 (.mv (.t 23))]))))
def x643:XFun:=
 ⟨[.tmp 2],(.seq (.region [0] [o0 2 (.mv (.c (.slice none 0 0)))]) (.seq (.region [3] [o0 5 (.mv (.t 0)),
 o0 6 (.call .share 743 [.t 5]),
 o0 3 (.mv (.t 6))]) (.seq (.seq (.region [3,8,9] [o0 7 (.mv (.t 3)),
 o0 8 (.len (.t 7)),
 o0 9 (.mv (.c (.int .i64 0)))]) (.block 0 (.loop [3,8,9] x643L1))) (.seq (.region [2] [o0 24 (.mv (.t 3)),
 o0 25 (.call .share 741 [.t 24]),
 o0 2 (.mv (.t 25))]) .ret))))⟩
def x641:XFun:=
 ⟨[.tmp 3],(.seq (.region [1,2] [o0 2 (.box 2 (.t 0)),
 o0 3 (.mv (.c (.bool false)))]) (.seq (.region [3] [o0 4 (.load none (.t 1)),
 o0 5 (.load (some 2) (.t 2)),
 o0 6 (.call .share 646 [(.t 4),(.t 5)]),
 o0 7 (.un .not (.t 6)),
 o0 3 (.mv (.t 7))]) .ret))⟩
def x642L1:XCode:=
 (.seq (.region [2,5,6,7,8] [o0 8 (.bin .lss (.t 7) (.t 6))]) (.seq (.cond (.t 8) .skip (.exit 0)) (.seq (.block 1 (.seq (.region [2,4,5,6,7] [o0 9 (.idxA 5 (.t 5) (.t 7)),
 o0 10 (.load (some 5) (.t 9)),
 o0 4 (.alloc [(.int .u8 0),(.string .empty),(.slice none 0 0),(.int .i64 0),(.int .i64 0)]),
 o2 (.store 5 (.t 4) (.t 10))]) (.region [2,5,6,7] [o0 11 (.mv (.t 2)),
 o0 12 (.load (some 5) (.t 4)),
 o0 13 (.call .view 578 [.t 12]),
 o0 14 (.buildSlice 1 [(.int .i64 0)] 1 [(0,1,(.t 13))]),
 o0 15 (.append 1 8 (.t 11) (.t 14)),
 o0 2 (.mv (.t 15))]))) (.region [2,5,6,7] [o0 16 (.bin .add (.t 7) (.c (.int .i64 1))),
 o0 7 (.mv (.t 16))]))))
def x642:XFun:=
 ⟨[.tmp 2],(.seq (.region [0,2] [o0 2 (.mv (.c (.slice none 0 0)))]) (.seq (.seq (.region [2,5,6,7] [o0 5 (.mv (.t 0)),
 o0 6 (.len (.t 5)),
 o0 7 (.mv (.c (.int .i64 0)))]) (.block 0 (.loop [2,5,6,7] x642L1))) (.seq (.region [2] [o0 17 (.mv (.t 2)),
 o0 2 (.mv (.t 17))]) .ret)))⟩
def x206:XFun:=
 ⟨[.cell 4 (some 4)],(.seq (.region [0,3,4] [o0 3 (.box 4 (.t 1)),
 o0 4 (.alloc [(.int .u8 0),(.int .i64 0),(.string .empty),(.bool false)])]) (.seq (.region [0,3,4,5] [o0 9 (.fieldA 2 (.t 3)),
 o0 10 (.load none (.t 9)),
 o0 5 (.mv (.t 10))]) (.seq (.seq (.region [0,3,4,5,12] [o0 11 (.fieldA 0 (.t 3)),
 o0 12 (.load none (.t 11))]) (.block 0 (.seq (.region [0,3,4,5,12,13] [o0 14 (.bin .eql (.t 12) (.c (.int .u8 1))),
 o0 13 (.mv (.t 14))]) (.cond (.t 13) (.seq (.seq (.region [0,3,4,6] [o0 15 (.fieldA 3 (.t 3)),
 o0 16 (.load none (.t 15)),
 o0 17 (.fieldA 1 (.t 3)),
 o0 18 (.load none (.t 17)),
 o0 19 (.idxA 3 (.t 16) (.t 18)),
 o0 20 (.load (some 3) (.t 19)),
 o0 6 (.alloc [(.int .u8 0),(.int .i64 0),(.string .empty)]),
 o2 (.store 3 (.t 6) (.t 20))]) (.seq (.region [0,3,4,6,23] [o0 21 (.fieldA 0 (.t 6)),
 o0 22 (.load none (.t 21)),
 o0 23 (.bin .eql (.t 22) (.c (.int .u8 3)))]) (.cond (.t 23) (.seq (.region [4] [o0 24 (.mv (.t 0)),
 o0 25 (.fieldA 2 (.t 6)),
 o0 26 (.load none (.t 25)),
 o0 27 (.call .share 219 [(.t 24),(.t 26)]),
 o2 (.store 4 (.t 4) (.t 27))]) .ret) .skip))) (.seq (.region [4] [o0 28 (.fieldA 3 (.t 3)),
 o0 29 (.load none (.t 28)),
 o0 30 (.fieldA 1 (.t 3)),
 o0 31 (.load none (.t 30)),
 o0 32 (.idxA 3 (.t 29) (.t 31)),
 o0 33 (.fieldA 1 (.t 32)),
 o0 34 (.load none (.t 33)),
 o0 35 (.build [(.int .u8 0),(.int .i64 0)] [(0,1,(.c (.int .u8 2))),(1,1,(.t 34))]),
 o0 36 (.build [(.int .u8 0),(.int .i64 0),(.string .empty),(.bool false)] [(0,2,(.t 35))]),
 o2 (.store 4 (.t 4) (.t 36))]) .ret)) (.seq (.region [0,3,4,5,37] [o0 38 (.bin .eql (.t 12) (.c (.int .u8 26))),
 o0 37 (.mv (.t 38))]) (.cond (.t 37) (.seq (.seq (.region [0,3,4,5,40] [o0 39 (.mv (.t 5)),
 o0 40 (.call .share 749 [(.t 39),(.f 207)])]) (.cond (.t 40) (.seq (.region [4] [o0 41 (.build [(.int .u8 0),(.int .i64 0),(.string .empty),(.bool false)] [(2,1,(.c (.string ⟨#[107,105,110,100]⟩)))]),
 o2 (.store 4 (.t 4) (.t 41))]) .ret) .skip)) (.seq (.region [4] [o0 42 (.mv (.t 0)),
 o0 43 (.mv (.t 5)),
 o0 44 (.call .own 742 [.t 43]),
 o0 45 (.fieldA 1 (.t 3)),
 o0 46 (.load none (.t 45)),
 o0 47 (.build [(.int .u8 0),(.string .empty),(.slice none 0 0),(.int .i64 0),(.int .i64 0)] [(0,1,(.c (.int .u8 6))),(2,1,(.t 44)),(4,1,(.t 46))]),
 o0 48 (.call .share 212 [(.t 42),(.t 47)]),
 o2 (.store 4 (.t 4) (.t 48))]) .ret)) .skip)))))) (.seq (.seq (.region [0,3,4,5,50] [o0 49 (.mv (.t 5)),
 o0 50 (.call .view 580 [.t 49])]) (.cond (.t 50) (.seq (.region [4] [o0 51 (.build [(.int .u8 0),(.int .i64 0),(.string .empty),(.bool false)] [(2,1,(.c (.string ⟨#[107,105,110,100]⟩)))]),
 o2 (.store 4 (.t 4) (.t 51))]) .ret) .skip)) (.seq (.seq (.region [0,3,4,5,53] [o0 52 (.fieldA 0 (.t 3)),
 o0 53 (.load none (.t 52))]) (.block 1 (.seq (.region [0,3,4,5,53,54] [o0 55 (.bin .eql (.t 53) (.c (.int .u8 14))),
 o0 54 (.mv (.t 55))]) (.cond (.t 54) (.seq (.region [4] [o0 56 (.mv (.t 0)),
 o0 57 (.fieldA 1 (.t 3)),
 o0 58 (.load none (.t 57)),
 o0 59 (.conv .u8 (.t 58)),
 o0 60 (.mv (.t 5)),
 o0 61 (.idxA 2 (.t 60) (.c (.int .i64 0))),
 o0 62 (.load (some 2) (.t 61)),
 o0 63 (.mv (.t 5)),
 o0 64 (.idxA 2 (.t 63) (.c (.int .i64 1))),
 o0 65 (.load (some 2) (.t 64)),
 o0 66 (.call .share 210 [(.t 56),(.t 59),(.t 62),(.t 65)]),
 o2 (.store 4 (.t 4) (.t 66))]) .ret) (.seq (.region [0,4,5,53,67] [o0 68 (.bin .eql (.t 53) (.c (.int .u8 15))),
 o0 67 (.mv (.t 68))]) (.cond (.t 67) (.seq (.region [4,5,73] [o0 69 (.mv (.t 5)),
 o0 70 (.idxA 2 (.t 69) (.c (.int .i64 0))),
 o0 71 (.fieldA 0 (.t 70)),
 o0 72 (.load none (.t 71)),
 o0 73 (.bin .eql (.t 72) (.c (.int .u8 1)))]) (.cond (.t 73) (.seq (.region [4] [o0 74 (.mv (.t 5)),
 o0 75 (.idxA 2 (.t 74) (.c (.int .i64 0))),
 o0 76 (.fieldA 1 (.t 75)),
 o0 77 (.load none (.t 76)),
 o0 78 (.bin .eql (.t 77) (.c (.int .i64 0))),
 o0 79 (.call .view 588 [.t 78]),
 o0 80 (.build [(.int .u8 0),(.int .i64 0),(.string .empty),(.bool false)] [(0,2,(.t 79))]),
 o2 (.store 4 (.t 4) (.t 80))]) .ret) .skip)) (.seq (.region [0,4,5,53,81] [o0 82 (.bin .eql (.t 53) (.c (.int .u8 16))),
 o0 81 (.mv (.t 82))]) (.cond (.t 81) (.seq (.region [4,5,87] [o0 83 (.mv (.t 5)),
 o0 84 (.idxA 2 (.t 83) (.c (.int .i64 0))),
 o0 85 (.fieldA 0 (.t 84)),
 o0 86 (.load none (.t 85)),
 o0 87 (.bin .eql (.t 86) (.c (.int .u8 2)))]) (.cond (.t 87) (.seq (.region [4] [o0 88 (.mv (.t 5)),
 o0 89 (.idxA 2 (.t 88) (.c (.int .i64 0))),
 o0 90 (.fieldA 1 (.t 89)),
 o0 91 (.load none (.t 90)),
 o0 92 (.un .neg (.t 91)),
 o0 93 (.build [(.int .u8 0),(.int .i64 0)] [(0,1,(.c (.int .u8 2))),(1,1,(.t 92))]),
 o0 94 (.build [(.int .u8 0),(.int .i64 0),(.string .empty),(.bool false)] [(0,2,(.t 93))]),
 o2 (.store 4 (.t 4) (.t 94))]) .ret) .skip)) (.seq (.region [0,4,5,53,95] [o0 96 (.bin .eql (.t 53) (.c (.int .u8 17))),
 o0 95 (.mv (.t 96))]) (.cond (.t 95) (.seq (.region [4] [o0 97 (.mv (.t 0)),
 o0 98 (.mv (.t 5)),
 o0 99 (.idxA 2 (.t 98) (.c (.int .i64 0))),
 o0 100 (.load (some 2) (.t 99)),
 o0 101 (.call .share 217 [(.t 97),(.t 100)]),
 o2 (.store 4 (.t 4) (.t 101))]) .ret) (.seq (.region [0,4,5,53,102] [o0 103 (.bin .eql (.t 53) (.c (.int .u8 18))),
 o0 102 (.mv (.t 103))]) (.cond (.t 102) (.seq (.region [0,4,7,8] [o0 105 (.mv (.t 0)),
 o0 106 (.mv (.t 5)),
 o0 107 (.idxA 2 (.t 106) (.c (.int .i64 0))),
 o0 108 (.load (some 2) (.t 107)),
 o0 109 (.call .share 208 [(.t 105),(.t 108)]),
 o0 104 (.mv (.t 109)),
 o0 110 (.extract (.t 104) 0),
 o0 111 (.extract (.t 104) 1),
 o0 7 (.mv (.t 110)),
 o0 8 (.mv (.t 111))]) (.seq (.seq (.region [0,4,7,113] [o0 112 (.mv (.t 8)),
 o0 113 (.un .not (.t 112))]) (.cond (.t 113) (.seq (.region [4] [o0 114 (.build [(.int .u8 0),(.int .i64 0),(.string .empty),(.bool false)] [(2,1,(.c (.string ⟨#[103,114,101,97,116]⟩)))]),
 o2 (.store 4 (.t 4) (.t 114))]) .ret) .skip)) (.seq (.region [4] [o0 115 (.mv (.t 0)),
 o0 116 (.mv (.t 7)),
 o0 117 (.call .share 219 [(.t 115),(.t 116)]),
 o2 (.store 4 (.t 4) (.t 117))]) .ret))) (.seq (.region [0,4,5,53,118] [o0 119 (.bin .eql (.t 53) (.c (.int .u8 22))),
 o0 118 (.mv (.t 119))]) (.cond (.t 118) (.seq (.seq (.region [0,4,5,122] [o0 120 (.mv (.t 5)),
 o0 121 (.len (.t 120)),
 o0 122 (.bin .gtr (.t 121) (.c (.int .i64 65536)))]) (.cond (.t 122) (.seq (.region [4] [o0 123 (.build [(.int .u8 0),(.int .i64 0),(.string .empty),(.bool false)] [(2,1,(.c (.string ⟨#[105,116,101,109,115]⟩)))]),
 o2 (.store 4 (.t 4) (.t 123))]) .ret) .skip)) (.seq (.region [4] [o0 124 (.mv (.t 0)),
 o0 125 (.mv (.t 5)),
 o0 126 (.call .own 742 [.t 125]),
 o0 127 (.mv (.t 5)),
 o0 128 (.len (.t 127)),
 o0 129 (.build [(.int .u8 0),(.string .empty),(.slice none 0 0),(.int .i64 0),(.int .i64 0)] [(0,1,(.c (.int .u8 4))),(2,1,(.t 126)),(3,1,(.t 128))]),
 o0 130 (.call .share 212 [(.t 124),(.t 129)]),
 o2 (.store 4 (.t 4) (.t 130))]) .ret)) (.seq (.region [0,4,5,53,131] [o0 132 (.bin .eql (.t 53) (.c (.int .u8 23))),
 o0 131 (.mv (.t 132))]) (.cond (.t 131) (.seq (.region [4] [o0 133 (.mv (.t 0)),
 o0 134 (.mv (.t 5)),
 o0 135 (.call .share 214 [(.t 133),(.t 134)]),
 o2 (.store 4 (.t 4) (.t 135))]) .ret) (.seq (.region [0,4,5,53,136] [o0 137 (.bin .eql (.t 53) (.c (.int .u8 7))),
 o0 136 (.mv (.t 137))]) (.cond (.t 136) (.seq (.region [4] [o0 138 (.mv (.t 0)),
 o0 139 (.mv (.t 5)),
 o0 140 (.call .own 742 [.t 139]),
 o0 141 (.build [(.int .u8 0),(.string .empty),(.slice none 0 0),(.int .i64 0),(.int .i64 0)] [(0,1,(.c (.int .u8 7))),(2,1,(.t 140))]),
 o0 142 (.call .share 212 [(.t 138),(.t 141)]),
 o2 (.store 4 (.t 4) (.t 142))]) .ret) (.seq (.region [0,4,5,53,143] [o0 144 (.bin .eql (.t 53) (.c (.int .u8 24))),
 o0 143 (.mv (.t 144))]) (.cond (.t 143) (.seq (.region [4] [o0 145 (.mv (.t 0)),
 o0 146 (.mv (.t 5)),
 o0 147 (.idxA 2 (.t 146) (.c (.int .i64 0))),
 o0 148 (.load (some 2) (.t 147)),
 o0 149 (.mv (.t 5)),
 o0 150 (.idxA 2 (.t 149) (.c (.int .i64 1))),
 o0 151 (.load (some 2) (.t 150)),
 o0 152 (.call .share 211 [(.t 145),(.t 148),(.t 151)]),
 o2 (.store 4 (.t 4) (.t 152))]) .ret) (.seq (.region [0,4,5,153] [o0 154 (.bin .eql (.t 53) (.c (.int .u8 25))),
 o0 153 (.mv (.t 154))]) (.cond (.t 153) (.seq (.region [4] [o0 155 (.mv (.t 0)),
 o0 156 (.mv (.t 5)),
 o0 157 (.idxA 2 (.t 156) (.c (.int .i64 0))),
 o0 158 (.load (some 2) (.t 157)),
 o0 159 (.mv (.t 5)),
 o0 160 (.idxA 2 (.t 159) (.c (.int .i64 1))),
 o0 161 (.load (some 2) (.t 160)),
 o0 162 (.mv (.t 5)),
 o0 163 (.idxA 2 (.t 162) (.c (.int .i64 2))),
 o0 164 (.load (some 2) (.t 163)),
 o0 165 (.call .share 215 [(.t 155),(.t 158),(.t 161),(.t 164)]),
 o2 (.store 4 (.t 4) (.t 165))]) .ret) .skip)))))))))))))))))))))) (.seq (.region [4] [o0 166 (.build [(.int .u8 0),(.int .i64 0),(.string .empty),(.bool false)] [(2,1,(.c (.string ⟨#[107,105,110,100]⟩)))]),
 o2 (.store 4 (.t 4) (.t 166))]) .ret))))))⟩
def x639L1:XCode:=
 (.seq (.region [1,4,7,8,9,10] [o0 10 (.bin .lss (.t 9) (.t 8))]) (.seq (.cond (.t 10) .skip (.exit 0)) (.seq (.block 1 (.seq (.region [1,4,5,6,7,8,9] [o0 11 (.mv (.t 9)),
 o0 12 (.idxA 5 (.t 7) (.t 9)),
 o0 13 (.load (some 5) (.t 12)),
 o0 6 (.alloc [(.int .u8 0),(.string .empty),(.slice none 0 0),(.int .i64 0),(.int .i64 0)]),
 o0 5 (.mv (.t 11)),
 o2 (.store 5 (.t 6) (.t 13))]) (.block 2 (.seq (.region [1,4,5,6,7,8,9,14] [o0 15 (.mv (.t 5)),
 o0 16 (.mv (.t 1)),
 o0 17 (.len (.t 16)),
 o0 18 (.bin .geq (.t 15) (.t 17)),
 o0 14 (.mv (.t 18))]) (.cond (.t 14) (.region [1,4,7,8,9] [o0 19 (.mv (.t 4)),
 o0 20 (.load (some 5) (.t 6)),
 o0 21 (.call .view 578 [.t 20]),
 o0 22 (.bin .add (.t 19) (.t 21)),
 o0 4 (.mv (.t 22))]) (.seq (.region [1,4,6,7,8,9,23] [o0 24 (.load (some 5) (.t 6)),
 o0 25 (.call .view 578 [.t 24]),
 o0 26 (.mv (.t 1)),
 o0 27 (.mv (.t 5)),
 o0 28 (.idxA 1 (.t 26) (.t 27)),
 o0 29 (.load none (.t 28)),
 o0 30 (.bin .neq (.t 25) (.t 29)),
 o0 23 (.mv (.t 30))]) (.cond (.t 23) (.region [1,4,7,8,9] [o0 31 (.mv (.t 4)),
 o0 32 (.fieldA 3 (.t 6)),
 o0 33 (.load none (.t 32)),
 o0 34 (.bin .mul (.c (.int .i64 2)) (.t 33)),
 o0 35 (.bin .add (.c (.int .i64 1)) (.t 34)),
 o0 36 (.bin .add (.t 31) (.t 35)),
 o0 4 (.mv (.t 36))]) .skip))))))) (.region [1,4,7,8,9] [o0 37 (.bin .add (.t 9) (.c (.int .i64 1))),
 o0 9 (.mv (.t 37))]))))
def x639:XFun:=
 ⟨[.tmp 4],(.seq (.region [0,1,4] [o0 4 (.mv (.c (.int .i64 0)))]) (.seq (.seq (.region [1,4,7,8,9] [o0 7 (.mv (.t 0)),
 o0 8 (.len (.t 7)),
 o0 9 (.mv (.c (.int .i64 0)))]) (.block 0 (.loop [1,4,7,8,9] x639L1))) (.seq (.region [4] [o0 38 (.mv (.t 4)),
 o0 4 (.mv (.t 38))]) .ret)))⟩
def x351:XFun:=
 ⟨[.tmp 4],(.seq (.region [2,3] [o0 2 (.box 5 (.t 0)),
 o0 3 (.box 5 (.t 1)),
 o0 4 (.mv (.c (.bool false)))]) (.seq (.region [4] [o0 5 (.fieldA 0 (.t 2)),
 o0 6 (.load none (.t 5)),
 o0 7 (.fieldA 0 (.t 3)),
 o0 8 (.load none (.t 7)),
 o0 9 (.bin .eql (.t 6) (.t 8)),
 o0 10 (.mv (.t 9)),
 o1 11 10 true (.fieldA 1 (.t 2)),
 o1 12 10 true (.load none (.t 11)),
 o1 13 10 true (.fieldA 1 (.t 3)),
 o1 14 10 true (.load none (.t 13)),
 o1 15 10 true (.bin .eql (.t 12) (.t 14)),
 o0 16 (.pick (.t 10) (.t 15) (.c (.bool false))),
 o0 17 (.mv (.t 16)),
 o1 18 17 true (.fieldA 2 (.t 2)),
 o1 19 17 true (.load none (.t 18)),
 o1 20 17 true (.fieldA 2 (.t 3)),
 o1 21 17 true (.load none (.t 20)),
 o1 22 17 true (.call .view 357 [(.t 19),(.t 21)]),
 o0 23 (.pick (.t 17) (.t 22) (.c (.bool false))),
 o0 24 (.mv (.t 23)),
 o1 25 24 true (.fieldA 3 (.t 2)),
 o1 26 24 true (.load none (.t 25)),
 o1 27 24 true (.fieldA 3 (.t 3)),
 o1 28 24 true (.load none (.t 27)),
 o1 29 24 true (.bin .eql (.t 26) (.t 28)),
 o0 30 (.pick (.t 24) (.t 29) (.c (.bool false))),
 o0 31 (.mv (.t 30)),
 o1 32 31 true (.fieldA 4 (.t 2)),
 o1 33 31 true (.load none (.t 32)),
 o1 34 31 true (.fieldA 4 (.t 3)),
 o1 35 31 true (.load none (.t 34)),
 o1 36 31 true (.bin .eql (.t 33) (.t 35)),
 o0 37 (.pick (.t 31) (.t 36) (.c (.bool false))),
 o0 4 (.mv (.t 37))]) .ret))⟩
def x743:XFun:=
 ⟨[.tmp 2],(.seq (.region [0] [o0 2 (.mv (.c (.slice none 0 0)))]) (.seq (.seq (.region [0,4] [o0 3 (.mv (.t 0)),
 o0 4 (.eqNil false 0 (.t 3))]) (.cond (.t 4) (.seq (.region [2] [o0 2 (.mv (.c (.slice none 0 0)))]) .ret) .skip)) (.seq (.region [2] [o0 5 (.buildSlice 5 [(.int .u8 0),(.string .empty),(.slice none 0 0),(.int .i64 0),(.int .i64 0)] 0 []),
 o0 6 (.mv (.t 0)),
 o0 7 (.append 5 64 (.t 5) (.t 6)),
 o0 2 (.mv (.t 7))]) .ret)))⟩
def x740:XFun:=
 ⟨[.tmp 2],(.seq (.region [0] [o0 2 (.mv (.c (.slice none 0 0)))]) (.seq (.region [2] [o0 3 (.mv (.t 0)),
 o0 4 (.mv (.t 0)),
 o0 5 (.len (.t 4)),
 o0 6 (.mv (.t 0)),
 o0 7 (.len (.t 6)),
 o0 8 (.slice3 2 (.t 3) (.t 5) (.t 7)),
 o0 2 (.mv (.t 8))]) .ret))⟩
def x742:XFun:=
 ⟨[.tmp 2],(.seq (.region [0] [o0 2 (.mv (.c (.slice none 0 0)))]) (.seq (.seq (.region [0,4] [o0 3 (.mv (.t 0)),
 o0 4 (.eqNil false 0 (.t 3))]) (.cond (.t 4) (.seq (.region [2] [o0 2 (.mv (.c (.slice none 0 0)))]) .ret) .skip)) (.seq (.region [2] [o0 5 (.buildSlice 2 [(.int .u8 0),(.int .i64 0)] 0 []),
 o0 6 (.mv (.t 0)),
 o0 7 (.append 2 16 (.t 5) (.t 6)),
 o0 2 (.mv (.t 7))]) .ret)))⟩
def x741:XFun:=
 ⟨[.tmp 2],(.seq (.region [0] [o0 2 (.mv (.c (.slice none 0 0)))]) (.seq (.region [2] [o0 3 (.mv (.t 0)),
 o0 4 (.mv (.t 0)),
 o0 5 (.len (.t 4)),
 o0 6 (.mv (.t 0)),
 o0 7 (.len (.t 6)),
 o0 8 (.slice3 5 (.t 3) (.t 5) (.t 7)),
 o0 2 (.mv (.t 8))]) .ret))⟩
def x578:XFun:=
 ⟨[.tmp 2],(.seq (.region [1] [o0 1 (.box 5 (.t 0)),
 o0 2 (.mv (.c (.int .i64 0)))]) (.seq (.seq (.region [1,4] [o0 3 (.fieldA 0 (.t 1)),
 o0 4 (.load none (.t 3))]) (.block 0 (.seq (.region [1,4,5] [o0 6 (.bin .eql (.t 4) (.c (.int .u8 3))),
 o0 5 (.mv (.t 6))]) (.cond (.t 5) (.seq (.region [2] [o0 7 (.fieldA 1 (.t 1)),
 o0 8 (.load none (.t 7)),
 o0 9 (.lenS (.t 8)),
 o0 10 (.bin .add (.t 9) (.c (.int .i64 7))),
 o0 11 (.bin .quo (.t 10) (.c (.int .i64 8))),
 o0 12 (.bin .add (.c (.int .i64 2)) (.t 11)),
 o0 2 (.mv (.t 12))]) .ret) (.seq (.region [1,4,13] [o0 14 (.bin .eql (.t 4) (.c (.int .u8 6))),
 o0 13 (.mv (.t 14))]) (.cond (.t 13) (.seq (.region [2] [o0 15 (.fieldA 2 (.t 1)),
 o0 16 (.load none (.t 15)),
 o0 17 (.len (.t 16)),
 o0 18 (.bin .mul (.c (.int .i64 2)) (.t 17)),
 o0 19 (.bin .add (.c (.int .i64 2)) (.t 18)),
 o0 2 (.mv (.t 19))]) .ret) (.seq (.seq (.region [1,4,20] [o0 21 (.bin .eql (.t 4) (.c (.int .u8 4))),
 o0 20 (.mv (.t 21))]) (.cond (.t 20) .skip (.region [1,20] [o0 22 (.bin .eql (.t 4) (.c (.int .u8 5))),
 o0 20 (.mv (.t 22))]))) (.cond (.t 20) (.seq (.region [1,25] [o0 23 (.fieldA 3 (.t 1)),
 o0 24 (.load none (.t 23)),
 o0 25 (.bin .gtr (.t 24) (.c (.int .i64 0)))]) (.cond (.t 25) (.seq (.region [2] [o0 26 (.fieldA 3 (.t 1)),
 o0 27 (.load none (.t 26)),
 o0 28 (.bin .mul (.c (.int .i64 2)) (.t 27)),
 o0 29 (.bin .add (.c (.int .i64 4)) (.t 28)),
 o0 2 (.mv (.t 29))]) .ret) .skip)) .skip)))))))) (.seq (.region [2] [o0 2 (.mv (.c (.int .i64 3)))]) .ret)))⟩
def x219:XFun:=
 ⟨[.cell 4 (some 4)],(.seq (.region [0,1,4] [o0 4 (.alloc [(.int .u8 0),(.int .i64 0),(.string .empty),(.bool false)])]) (.seq (.seq (.region [0,1,4,7] [o0 5 (.mv (.t 1)),
 o0 6 (.lenS (.t 5)),
 o0 7 (.bin .gtr (.t 6) (.c (.int .i64 4096)))]) (.cond (.t 7) (.seq (.region [4] [o0 8 (.build [(.int .u8 0),(.int .i64 0),(.string .empty),(.bool false)] [(2,1,(.c (.string ⟨#[103,114,101,97,116]⟩)))]),
 o2 (.store 4 (.t 4) (.t 8))]) .ret) .skip)) (.seq (.region [4] [o0 9 (.mv (.t 0)),
 o0 10 (.mv (.t 1)),
 o0 11 (.build [(.int .u8 0),(.string .empty),(.slice none 0 0),(.int .i64 0),(.int .i64 0)] [(0,1,(.c (.int .u8 3))),(1,1,(.t 10))]),
 o0 12 (.call .share 212 [(.t 9),(.t 11)]),
 o2 (.store 4 (.t 4) (.t 12))]) .ret)))⟩
def x207:XFun:=
 ⟨[.tmp 2],(.seq (.region [1] [o0 1 (.box 2 (.t 0)),
 o0 2 (.mv (.c (.bool false)))]) (.seq (.region [2] [o0 3 (.fieldA 0 (.t 1)),
 o0 4 (.load none (.t 3)),
 o0 5 (.bin .neq (.t 4) (.c (.int .u8 7))),
 o0 2 (.mv (.t 5))]) .ret))⟩
def x212:XFun:=
 ⟨[.cell 4 (some 4)],(.seq (.region [0,3,4] [o0 3 (.box 5 (.t 1)),
 o0 4 (.alloc [(.int .u8 0),(.int .i64 0),(.string .empty),(.bool false)])]) (.seq (.seq (.region [0,3,4,9] [o0 5 (.mv (.t 0)),
 o0 6 (.load (some 5) (.t 3)),
 o0 7 (.call .view 578 [.t 6]),
 o0 8 (.call .share 218 [(.t 5),(.t 7)]),
 o0 9 (.un .not (.t 8))]) (.cond (.t 9) (.seq (.region [4] [o0 10 (.build [(.int .u8 0),(.int .i64 0),(.string .empty),(.bool false)] [(3,1,(.c (.bool true)))]),
 o2 (.store 4 (.t 4) (.t 10))]) .ret) .skip)) (.seq (.region [0,3,4] [o0 11 (.mv (.t 0)),
 o0 12 (.mv (.t 0)),
 o0 13 (.nilCheck (.t 12)),
 o0 14 (.fieldA 0 (.t 13)),
 o0 15 (.load none (.t 14)),
 o0 16 (.load (some 5) (.t 3)),
 o0 17 (.buildSlice 5 [(.int .u8 0),(.string .empty),(.slice none 0 0),(.int .i64 0),(.int .i64 0)] 1 [(0,5,(.t 16))]),
 o0 18 (.append 5 64 (.t 15) (.t 17)),
 o0 19 (.nilCheck (.t 11)),
 o0 20 (.fieldA 0 (.t 19)),
 o2 (.store 1 (.t 20) (.t 18))]) (.seq (.region [4] [o0 21 (.fieldA 0 (.t 3)),
 o0 22 (.load none (.t 21)),
 o0 23 (.mv (.t 0)),
 o0 24 (.nilCheck (.t 23)),
 o0 25 (.fieldA 0 (.t 24)),
 o0 26 (.load none (.t 25)),
 o0 27 (.len (.t 26)),
 o0 28 (.build [(.int .u8 0),(.int .i64 0)] [(0,1,(.t 22)),(1,1,(.t 27))]),
 o0 29 (.build [(.int .u8 0),(.int .i64 0),(.string .empty),(.bool false)] [(0,2,(.t 28))]),
 o2 (.store 4 (.t 4) (.t 29))]) .ret))))⟩
def x580L1:XCode:=
 (.seq (.region [5,6,7,8] [o0 8 (.bin .lss (.t 7) (.t 6))]) (.seq (.cond (.t 8) .skip (.exit 0)) (.seq (.block 1 (.seq (.region [4,5,6,7] [o0 9 (.idxA 2 (.t 5) (.t 7)),
 o0 10 (.load (some 2) (.t 9)),
 o0 4 (.alloc [(.int .u8 0),(.int .i64 0)]),
 o2 (.store 2 (.t 4) (.t 10))]) (.seq (.region [5,6,7,13] [o0 11 (.fieldA 0 (.t 4)),
 o0 12 (.load none (.t 11)),
 o0 13 (.bin .eql (.t 12) (.c (.int .u8 7)))]) (.cond (.t 13) (.seq (.region [2] [o0 2 (.mv (.c (.bool true)))]) .ret) .skip)))) (.region [5,6,7] [o0 14 (.bin .add (.t 7) (.c (.int .i64 1))),
 o0 7 (.mv (.t 14))]))))
def x580:XFun:=
 ⟨[.tmp 2],(.seq (.region [0] [o0 2 (.mv (.c (.bool false)))]) (.seq (.seq (.region [5,6,7] [o0 5 (.mv (.t 0)),
 o0 6 (.len (.t 5)),
 o0 7 (.mv (.c (.int .i64 0)))]) (.block 0 (.loop [5,6,7] x580L1))) (.seq (.region [2] [o0 2 (.mv (.c (.bool false)))]) .ret)))⟩
def x210:XFun:=
 ⟨[.cell 8 (some 4)],(.seq (.region [0,1,6,7,8] [o0 6 (.box 2 (.t 2)),
 o0 7 (.box 2 (.t 3)),
 o0 8 (.alloc [(.int .u8 0),(.int .i64 0),(.string .empty),(.bool false)])]) (.seq (.block 0 (.seq (.region [0,1,6,7,8,13] [o0 14 (.mv (.t 1)),
 o0 15 (.bin .eql (.t 14) (.c (.int .u8 8))),
 o0 16 (.mv (.t 15)),
 o1 17 16 false (.mv (.t 1)),
 o1 18 16 false (.bin .eql (.t 17) (.c (.int .u8 9))),
 o0 19 (.pick (.t 16) (.c (.bool true)) (.t 18)),
 o0 13 (.mv (.t 19))]) (.cond (.t 13) (.seq (.region [8] [o0 20 (.mv (.t 0)),
 o0 21 (.load (some 2) (.t 6)),
 o0 22 (.load (some 2) (.t 7)),
 o0 23 (.call .peek 216 [(.t 20),(.t 21),(.t 22)]),
 o0 24 (.mv (.t 1)),
 o0 25 (.bin .eql (.t 24) (.c (.int .u8 8))),
 o0 26 (.binB .eql (.t 23) (.t 25)),
 o0 27 (.call .view 588 [.t 26]),
 o0 28 (.build [(.int .u8 0),(.int .i64 0),(.string .empty),(.bool false)] [(0,2,(.t 27))]),
 o2 (.store 4 (.t 8) (.t 28))]) .ret) (.seq (.region [0,1,6,7,8,29] [o0 30 (.fieldA 0 (.t 6)),
 o0 31 (.load none (.t 30)),
 o0 32 (.bin .eql (.t 31) (.c (.int .u8 2))),
 o0 33 (.mv (.t 32)),
 o1 34 33 true (.fieldA 0 (.t 7)),
 o1 35 33 true (.load none (.t 34)),
 o1 36 33 true (.bin .eql (.t 35) (.c (.int .u8 2))),
 o0 37 (.pick (.t 33) (.t 36) (.c (.bool false))),
 o0 29 (.mv (.t 37))]) (.cond (.t 29) (.seq (.region [8,9,10] [o0 39 (.mv (.t 1)),
 o0 40 (.fieldA 1 (.t 6)),
 o0 41 (.load none (.t 40)),
 o0 42 (.fieldA 1 (.t 7)),
 o0 43 (.load none (.t 42)),
 o0 44 (.call .view 579 [(.t 39),(.t 41),(.t 43)]),
 o0 38 (.mv (.t 44)),
 o0 45 (.extract (.t 38) 0),
 o0 46 (.extract (.t 38) 1),
 o0 9 (.alloc [(.int .u8 0),(.int .i64 0)]),
 o2 (.store 2 (.t 9) (.t 45)),
 o0 10 (.mv (.t 46))]) (.seq (.region [8] [o0 47 (.load (some 2) (.t 9)),
 o0 48 (.mv (.t 10)),
 o0 49 (.build [(.int .u8 0),(.int .i64 0),(.string .empty),(.bool false)] [(0,2,(.t 47)),(2,1,(.t 48))]),
 o2 (.store 4 (.t 8) (.t 49))]) .ret)) (.seq (.region [0,1,6,7,8,50] [o0 51 (.fieldA 0 (.t 6)),
 o0 52 (.load none (.t 51)),
 o0 53 (.bin .neq (.t 52) (.c (.int .u8 3))),
 o0 54 (.mv (.t 53)),
 o1 55 54 false (.fieldA 0 (.t 7)),
 o1 56 54 false (.load none (.t 55)),
 o1 57 54 false (.bin .neq (.t 56) (.c (.int .u8 3))),
 o0 58 (.pick (.t 54) (.c (.bool true)) (.t 57)),
 o0 50 (.mv (.t 58))]) (.cond (.t 50) (.seq (.region [8] [o0 59 (.build [(.int .u8 0),(.int .i64 0),(.string .empty),(.bool false)] [(2,1,(.c (.string ⟨#[107,105,110,100]⟩)))]),
 o2 (.store 4 (.t 8) (.t 59))]) .ret) .skip))))))) (.seq (.region [0,1,8,11,12] [o0 60 (.mv (.t 0)),
 o0 61 (.load (some 2) (.t 6)),
 o0 62 (.call .look 213 [(.t 60),(.t 61)]),
 o0 63 (.nilCheck (.t 62)),
 o0 64 (.fieldA 1 (.t 63)),
 o0 65 (.load none (.t 64)),
 o0 66 (.mv (.t 0)),
 o0 67 (.load (some 2) (.t 7)),
 o0 68 (.call .look 213 [(.t 66),(.t 67)]),
 o0 69 (.nilCheck (.t 68)),
 o0 70 (.fieldA 1 (.t 69)),
 o0 71 (.load none (.t 70)),
 o0 11 (.mv (.t 65)),
 o0 12 (.mv (.t 71))]) (.seq (.seq (.region [0,8,11,12,72] [o0 72 (.mv (.t 1))]) (.block 1 (.seq (.region [0,8,11,12,72,73] [o0 74 (.bin .eql (.t 72) (.c (.int .u8 1))),
 o0 73 (.mv (.t 74))]) (.cond (.t 73) (.seq (.region [8] [o0 75 (.mv (.t 0)),
 o0 76 (.mv (.t 11)),
 o0 77 (.mv (.t 12)),
 o0 78 (.bin .add (.t 76) (.t 77)),
 o0 79 (.call .share 219 [(.t 75),(.t 78)]),
 o2 (.store 4 (.t 8) (.t 79))]) .ret) (.seq (.region [8,11,12,72,80] [o0 81 (.bin .eql (.t 72) (.c (.int .u8 6))),
 o0 80 (.mv (.t 81))]) (.cond (.t 80) (.seq (.region [8] [o0 82 (.mv (.t 11)),
 o0 83 (.mv (.t 12)),
 o0 84 (.bin .lss (.t 82) (.t 83)),
 o0 85 (.call .view 588 [.t 84]),
 o0 86 (.build [(.int .u8 0),(.int .i64 0),(.string .empty),(.bool false)] [(0,2,(.t 85))]),
 o2 (.store 4 (.t 8) (.t 86))]) .ret) (.seq (.region [8,11,12,87] [o0 88 (.bin .eql (.t 72) (.c (.int .u8 7))),
 o0 87 (.mv (.t 88))]) (.cond (.t 87) (.seq (.region [8] [o0 89 (.mv (.t 11)),
 o0 90 (.mv (.t 12)),
 o0 91 (.bin .leq (.t 89) (.t 90)),
 o0 92 (.call .view 588 [.t 91]),
 o0 93 (.build [(.int .u8 0),(.int .i64 0),(.string .empty),(.bool false)] [(0,2,(.t 92))]),
 o2 (.store 4 (.t 8) (.t 93))]) .ret) .skip)))))))) (.seq (.region [8] [o0 94 (.build [(.int .u8 0),(.int .i64 0),(.string .empty),(.bool false)] [(2,1,(.c (.string ⟨#[107,105,110,100]⟩)))]),
 o2 (.store 4 (.t 8) (.t 94))]) .ret)))))⟩
def x588:XFun:=
 ⟨[.cell 2 (some 2)],(.seq (.region [0,2] [o0 2 (.alloc [(.int .u8 0),(.int .i64 0)])]) (.seq (.region [0,2,3] [o0 4 (.build [(.int .u8 0),(.int .i64 0)] [(0,1,(.c (.int .u8 1)))]),
 o0 3 (.alloc [(.int .u8 0),(.int .i64 0)]),
 o2 (.store 2 (.t 3) (.t 4))]) (.seq (.seq (.region [2,3,5] [o0 5 (.mv (.t 0))]) (.cond (.t 5) (.region [2,3] [o0 6 (.fieldA 1 (.t 3)),
 o2 (.store 1 (.t 6) (.c (.int .i64 1)))]) .skip)) (.seq (.region [2] [o0 7 (.load (some 2) (.t 3)),
 o2 (.store 2 (.t 2) (.t 7))]) .ret))))⟩
def x217:XFun:=
 ⟨[.cell 4 (some 4)],(.seq (.region [0,3,4] [o0 3 (.box 2 (.t 1)),
 o0 4 (.alloc [(.int .u8 0),(.int .i64 0),(.string .empty),(.bool false)])]) (.seq (.region [0,3,4] [o0 5 (.mv (.c (.int .i64 0)))]) (.seq (.seq (.region [0,3,4,7] [o0 6 (.fieldA 0 (.t 3)),
 o0 7 (.load none (.t 6))]) (.block 0 (.seq (.region [0,3,4,7,9] [o0 10 (.bin .eql (.t 7) (.c (.int .u8 3))),
 o0 9 (.mv (.t 10))]) (.cond (.t 9) (.region [4,5] [o0 11 (.mv (.t 0)),
 o0 12 (.load (some 2) (.t 3)),
 o0 13 (.call .look 213 [(.t 11),(.t 12)]),
 o0 14 (.nilCheck (.t 13)),
 o0 15 (.fieldA 1 (.t 14)),
 o0 16 (.load none (.t 15)),
 o0 17 (.lenS (.t 16)),
 o0 5 (.mv (.t 17))]) (.seq (.region [0,3,4,7,18] [o0 19 (.bin .eql (.t 7) (.c (.int .u8 4))),
 o0 18 (.mv (.t 19))]) (.cond (.t 18) (.region [4,5] [o0 20 (.mv (.t 0)),
 o0 21 (.load (some 2) (.t 3)),
 o0 22 (.call .look 213 [(.t 20),(.t 21)]),
 o0 23 (.nilCheck (.t 22)),
 o0 24 (.fieldA 2 (.t 23)),
 o0 25 (.load none (.t 24)),
 o0 26 (.len (.t 25)),
 o0 5 (.mv (.t 26))]) (.seq (.region [0,3,4,27] [o0 28 (.bin .eql (.t 7) (.c (.int .u8 5))),
 o0 27 (.mv (.t 28))]) (.cond (.t 27) (.region [4,5] [o0 29 (.mv (.t 0)),
 o0 30 (.load (some 2) (.t 3)),
 o0 31 (.call .look 213 [(.t 29),(.t 30)]),
 o0 32 (.nilCheck (.t 31)),
 o0 33 (.fieldA 2 (.t 32)),
 o0 34 (.load none (.t 33)),
 o0 35 (.len (.t 34)),
 o0 36 (.bin .quo (.t 35) (.c (.int .i64 2))),
 o0 5 (.mv (.t 36))]) (.seq (.region [4] [o0 8 (.build [(.int .u8 0),(.int .i64 0),(.string .empty),(.bool false)] [(2,1,(.c (.string ⟨#[107,105,110,100]⟩)))]),
 o2 (.store 4 (.t 4) (.t 8))]) .ret))))))))) (.seq (.region [4] [o0 37 (.mv (.t 5)),
 o0 38 (.build [(.int .u8 0),(.int .i64 0)] [(0,1,(.c (.int .u8 2))),(1,1,(.t 37))]),
 o0 39 (.build [(.int .u8 0),(.int .i64 0),(.string .empty),(.bool false)] [(0,2,(.t 38))]),
 o2 (.store 4 (.t 4) (.t 39))]) .ret))))⟩
def x208:XFun:=
 ⟨[.tmp 4,.tmp 5],(.seq (.region [0,3] [o0 3 (.box 2 (.t 1)),
 o0 4 (.mv (.c (.string .empty))),
 o0 5 (.mv (.c (.bool false)))]) (.seq (.region [4,5] [o0 6 (.mv (.t 0)),
 o0 7 (.nilCheck (.t 6)),
 o0 8 (.fieldA 0 (.t 7)),
 o0 9 (.load none (.t 8)),
 o0 10 (.load (some 2) (.t 3)),
 o0 11 (.call .view 648 [(.t 9),(.t 10)]),
 o0 12 (.extract (.t 11) 0),
 o0 13 (.extract (.t 11) 1),
 o0 4 (.mv (.t 12)),
 o0 5 (.mv (.t 13))]) .ret))⟩
def x214L1:XCode:=
 (.seq (.seq (.region [0,1,4,5,6,22] [o0 19 (.mv (.t 6)),
 o0 20 (.mv (.t 1)),
 o0 21 (.len (.t 20)),
 o0 22 (.bin .lss (.t 19) (.t 21))]) (.cond (.t 22) .skip (.exit 1))) (.seq (.block 2 (.seq (.region [0,1,4,5,6,7] [o0 25 (.mv (.t 0)),
 o0 26 (.mv (.t 5)),
 o0 27 (.mv (.t 1)),
 o0 28 (.mv (.t 6)),
 o0 29 (.idxA 2 (.t 27) (.t 28)),
 o0 30 (.load (some 2) (.t 29)),
 o0 31 (.call .peek 209 [(.t 25),(.t 26),(.t 30)]),
 o0 7 (.mv (.t 31))]) (.seq (.region [0,1,4,5,6,7,33] [o0 32 (.mv (.t 7)),
 o0 33 (.bin .geq (.t 32) (.c (.int .i64 0)))]) (.cond (.t 33) (.region [0,1,4,5,6] [o0 34 (.mv (.t 5)),
 o0 35 (.mv (.t 7)),
 o0 36 (.bin .add (.t 35) (.c (.int .i64 1))),
 o0 37 (.mv (.t 1)),
 o0 38 (.mv (.t 6)),
 o0 39 (.bin .add (.t 38) (.c (.int .i64 1))),
 o0 40 (.idxA 2 (.t 37) (.t 39)),
 o0 41 (.load (some 2) (.t 40)),
 o0 42 (.idxA 2 (.t 34) (.t 36)),
 o2 (.store 2 (.t 42) (.t 41))]) (.region [0,1,4,5,6] [o0 43 (.mv (.t 5)),
 o0 44 (.mv (.t 1)),
 o0 45 (.mv (.t 6)),
 o0 46 (.idxA 2 (.t 44) (.t 45)),
 o0 47 (.load (some 2) (.t 46)),
 o0 48 (.mv (.t 1)),
 o0 49 (.mv (.t 6)),
 o0 50 (.bin .add (.t 49) (.c (.int .i64 1))),
 o0 51 (.idxA 2 (.t 48) (.t 50)),
 o0 52 (.load (some 2) (.t 51)),
 o0 53 (.buildSlice 2 [(.int .u8 0),(.int .i64 0)] 2 [(0,2,(.t 47)),(2,2,(.t 52))]),
 o0 54 (.append 2 16 (.t 43) (.t 53)),
 o0 5 (.mv (.t 54))]))))) (.region [0,1,4,5,6] [o0 23 (.mv (.t 6)),
 o0 24 (.bin .add (.t 23) (.c (.int .i64 2))),
 o0 6 (.mv (.t 24))])))
def x214:XFun:=
 ⟨[.cell 4 (some 4)],(.seq (.region [0,1,4] [o0 4 (.alloc [(.int .u8 0),(.int .i64 0),(.string .empty),(.bool false)])]) (.seq (.block 0 (.seq (.region [0,1,4,8] [o0 9 (.mv (.t 1)),
 o0 10 (.len (.t 9)),
 o0 11 (.bin .rem (.t 10) (.c (.int .i64 2))),
 o0 12 (.bin .neq (.t 11) (.c (.int .i64 0))),
 o0 8 (.mv (.t 12))]) (.cond (.t 8) (.seq (.region [4] [o0 13 (.build [(.int .u8 0),(.int .i64 0),(.string .empty),(.bool false)] [(2,1,(.c (.string ⟨#[107,105,110,100]⟩)))]),
 o2 (.store 4 (.t 4) (.t 13))]) .ret) (.seq (.region [0,1,4,14] [o0 15 (.mv (.t 1)),
 o0 16 (.len (.t 15)),
 o0 17 (.bin .gtr (.t 16) (.c (.int .i64 131072))),
 o0 14 (.mv (.t 17))]) (.cond (.t 14) (.seq (.region [4] [o0 18 (.build [(.int .u8 0),(.int .i64 0),(.string .empty),(.bool false)] [(2,1,(.c (.string ⟨#[105,116,101,109,115]⟩)))]),
 o2 (.store 4 (.t 4) (.t 18))]) .ret) .skip))))) (.seq (.region [0,1,4,5] [o0 5 (.mv (.c (.slice none 0 0)))]) (.seq (.seq (.region [0,1,4,5,6] [o0 6 (.mv (.c (.int .i64 0)))]) (.block 1 (.loop [0,1,4,5,6] x214L1))) (.seq (.region [4] [o0 55 (.mv (.t 0)),
 o0 56 (.mv (.t 5)),
 o0 57 (.mv (.t 1)),
 o0 58 (.len (.t 57)),
 o0 59 (.build [(.int .u8 0),(.string .empty),(.slice none 0 0),(.int .i64 0),(.int .i64 0)] [(0,1,(.c (.int .u8 5))),(2,1,(.t 56)),(3,1,(.t 58))]),
 o0 60 (.call .share 212 [(.t 55),(.t 59)]),
 o2 (.store 4 (.t 4) (.t 60))]) .ret)))))⟩
def x211:XFun:=
 ⟨[.cell 6 (some 4)],(.seq (.region [0,4,5,6] [o0 4 (.box 2 (.t 1)),
 o0 5 (.box 2 (.t 2)),
 o0 6 (.alloc [(.int .u8 0),(.int .i64 0),(.string .empty),(.bool false)])]) (.seq (.seq (.region [0,4,5,6,12] [o0 9 (.load (some 2) (.t 4)),
 o0 10 (.load (some 2) (.t 5)),
 o0 11 (.call .view 581 [(.t 9),(.t 10)]),
 o0 12 (.un .not (.t 11))]) (.cond (.t 12) (.seq (.region [6] [o0 13 (.build [(.int .u8 0),(.int .i64 0),(.string .empty),(.bool false)] [(2,1,(.c (.string ⟨#[107,105,110,100]⟩)))]),
 o2 (.store 4 (.t 6) (.t 13))]) .ret) .skip)) (.seq (.region [0,4,5,6,7] [o0 14 (.mv (.t 0)),
 o0 15 (.load (some 2) (.t 4)),
 o0 16 (.call .look 213 [(.t 14),(.t 15)]),
 o0 7 (.mv (.t 16))]) (.seq (.seq (.region [0,4,5,6,7,19] [o0 17 (.fieldA 0 (.t 4)),
 o0 18 (.load none (.t 17)),
 o0 19 (.bin .eql (.t 18) (.c (.int .u8 5)))]) (.cond (.t 19) (.seq (.seq (.region [6,7,8] [o0 20 (.mv (.t 0)),
 o0 21 (.mv (.t 7)),
 o0 22 (.nilCheck (.t 21)),
 o0 23 (.fieldA 2 (.t 22)),
 o0 24 (.load none (.t 23)),
 o0 25 (.load (some 2) (.t 5)),
 o0 26 (.call .peek 209 [(.t 20),(.t 24),(.t 25)]),
 o0 8 (.mv (.t 26))]) (.seq (.region [6,7,8,28] [o0 27 (.mv (.t 8)),
 o0 28 (.bin .geq (.t 27) (.c (.int .i64 0)))]) (.cond (.t 28) (.seq (.region [6] [o0 29 (.mv (.t 7)),
 o0 30 (.nilCheck (.t 29)),
 o0 31 (.fieldA 2 (.t 30)),
 o0 32 (.load none (.t 31)),
 o0 33 (.mv (.t 8)),
 o0 34 (.bin .add (.t 33) (.c (.int .i64 1))),
 o0 35 (.idxA 2 (.t 32) (.t 34)),
 o0 36 (.load (some 2) (.t 35)),
 o0 37 (.build [(.int .u8 0),(.int .i64 0),(.string .empty),(.bool false)] [(0,2,(.t 36))]),
 o2 (.store 4 (.t 6) (.t 37))]) .ret) .skip))) (.seq (.region [6] [o0 38 (.build [(.int .u8 0),(.int .i64 0),(.string .empty),(.bool false)] []),
 o2 (.store 4 (.t 6) (.t 38))]) .ret)) .skip)) (.seq (.seq (.region [0,4,5,6,7,57] [o0 39 (.fieldA 1 (.t 5)),
 o0 40 (.load none (.t 39)),
 o0 41 (.bin .lss (.t 40) (.c (.int .i64 0))),
 o0 42 (.mv (.t 41)),
 o1 43 42 false (.fieldA 1 (.t 5)),
 o1 44 42 false (.load none (.t 43)),
 o1 45 42 false (.mv (.t 7)),
 o1 46 42 false (.nilCheck (.t 45)),
 o1 47 42 false (.fieldA 2 (.t 46)),
 o1 48 42 false (.load none (.t 47)),
 o1 49 42 false (.len (.t 48)),
 o1 50 42 false (.mv (.t 7)),
 o1 51 42 false (.nilCheck (.t 50)),
 o1 52 42 false (.fieldA 1 (.t 51)),
 o1 53 42 false (.load none (.t 52)),
 o1 54 42 false (.lenS (.t 53)),
 o1 55 42 false (.bin .add (.t 49) (.t 54)),
 o1 56 42 false (.bin .geq (.t 44) (.t 55)),
 o0 57 (.pick (.t 42) (.c (.bool true)) (.t 56))]) (.cond (.t 57) (.seq (.region [6] [o0 58 (.build [(.int .u8 0),(.int .i64 0),(.string .empty),(.bool false)] [(2,1,(.c (.string ⟨#[98,111,117,110,100,115]⟩)))]),
 o2 (.store 4 (.t 6) (.t 58))]) .ret) .skip)) (.seq (.seq (.region [0,5,6,7,61] [o0 59 (.fieldA 0 (.t 4)),
 o0 60 (.load none (.t 59)),
 o0 61 (.bin .eql (.t 60) (.c (.int .u8 3)))]) (.cond (.t 61) (.seq (.region [6] [o0 62 (.mv (.t 0)),
 o0 63 (.mv (.t 7)),
 o0 64 (.nilCheck (.t 63)),
 o0 65 (.fieldA 1 (.t 64)),
 o0 66 (.load none (.t 65)),
 o0 67 (.fieldA 1 (.t 5)),
 o0 68 (.load none (.t 67)),
 o0 69 (.fieldA 1 (.t 5)),
 o0 70 (.load none (.t 69)),
 o0 71 (.bin .add (.t 70) (.c (.int .i64 1))),
 o0 72 (.sliceS (.t 66) (some (.t 68)) (some (.t 71))),
 o0 73 (.call .share 219 [(.t 62),(.t 72)]),
 o2 (.store 4 (.t 6) (.t 73))]) .ret) .skip)) (.seq (.region [6] [o0 74 (.mv (.t 7)),
 o0 75 (.nilCheck (.t 74)),
 o0 76 (.fieldA 2 (.t 75)),
 o0 77 (.load none (.t 76)),
 o0 78 (.fieldA 1 (.t 5)),
 o0 79 (.load none (.t 78)),
 o0 80 (.idxA 2 (.t 77) (.t 79)),
 o0 81 (.load (some 2) (.t 80)),
 o0 82 (.build [(.int .u8 0),(.int .i64 0),(.string .empty),(.bool false)] [(0,2,(.t 81))]),
 o2 (.store 4 (.t 6) (.t 82))]) .ret)))))))⟩
def x215:XFun:=
 ⟨[.cell 8 (some 4)],(.seq (.region [0,5,6,7,8] [o0 5 (.box 2 (.t 1)),
 o0 6 (.box 2 (.t 2)),
 o0 7 (.box 2 (.t 3)),
 o0 8 (.alloc [(.int .u8 0),(.int .i64 0),(.string .empty),(.bool false)])]) (.seq (.seq (.region [0,5,6,7,8,23] [o0 15 (.load (some 2) (.t 5)),
 o0 16 (.load (some 2) (.t 6)),
 o0 17 (.call .view 581 [(.t 15),(.t 16)]),
 o0 18 (.un .not (.t 17)),
 o0 19 (.mv (.t 18)),
 o1 20 19 false (.fieldA 0 (.t 5)),
 o1 21 19 false (.load none (.t 20)),
 o1 22 19 false (.bin .eql (.t 21) (.c (.int .u8 3))),
 o0 23 (.pick (.t 19) (.c (.bool true)) (.t 22))]) (.cond (.t 23) (.seq (.region [8] [o0 24 (.build [(.int .u8 0),(.int .i64 0),(.string .empty),(.bool false)] [(2,1,(.c (.string ⟨#[107,105,110,100]⟩)))]),
 o2 (.store 4 (.t 8) (.t 24))]) .ret) .skip)) (.seq (.region [0,5,6,7,8,9] [o0 25 (.mv (.t 0)),
 o0 26 (.load (some 2) (.t 5)),
 o0 27 (.call .look 213 [(.t 25),(.t 26)]),
 o0 9 (.mv (.t 27))]) (.seq (.region [0,5,6,7,8,9,10,11,12] [o0 28 (.mv (.t 9)),
 o0 29 (.nilCheck (.t 28)),
 o0 30 (.fieldA 2 (.t 29)),
 o0 31 (.load none (.t 30)),
 o0 32 (.len (.t 31)),
 o0 33 (.fieldA 1 (.t 6)),
 o0 34 (.load none (.t 33)),
 o0 10 (.mv (.t 32)),
 o0 11 (.mv (.c (.int .i64 1))),
 o0 12 (.mv (.t 34))]) (.seq (.seq (.region [0,6,7,8,9,10,11,12,37] [o0 35 (.fieldA 0 (.t 5)),
 o0 36 (.load none (.t 35)),
 o0 37 (.bin .eql (.t 36) (.c (.int .u8 5)))]) (.cond (.t 37) (.seq (.region [0,6,7,8,9,10,11,12] [o0 38 (.mv (.t 10)),
 o0 11 (.mv (.c (.int .i64 2))),
 o0 12 (.mv (.t 38))]) (.seq (.region [0,6,7,8,9,10,11,12,13] [o0 39 (.mv (.t 0)),
 o0 40 (.mv (.t 9)),
 o0 41 (.nilCheck (.t 40)),
 o0 42 (.fieldA 2 (.t 41)),
 o0 43 (.load none (.t 42)),
 o0 44 (.load (some 2) (.t 6)),
 o0 45 (.call .peek 209 [(.t 39),(.t 43),(.t 44)]),
 o0 13 (.mv (.t 45))]) (.seq (.region [0,6,7,8,9,10,11,12,13,47] [o0 46 (.mv (.t 13)),
 o0 47 (.bin .geq (.t 46) (.c (.int .i64 0)))]) (.cond (.t 47) (.region [0,6,7,8,9,10,11,12] [o0 48 (.mv (.t 13)),
 o0 49 (.bin .add (.t 48) (.c (.int .i64 1))),
 o0 12 (.mv (.t 49))]) .skip)))) .skip)) (.seq (.block 0 (.seq (.region [0,6,7,8,9,10,11,12,50] [o0 51 (.mv (.t 12)),
 o0 52 (.bin .lss (.t 51) (.c (.int .i64 0))),
 o0 53 (.mv (.t 52)),
 o1 54 53 false (.mv (.t 12)),
 o1 55 53 false (.mv (.t 10)),
 o1 56 53 false (.bin .gtr (.t 54) (.t 55)),
 o0 57 (.pick (.t 53) (.c (.bool true)) (.t 56)),
 o0 50 (.mv (.t 57))]) (.cond (.t 50) (.seq (.region [8] [o0 58 (.build [(.int .u8 0),(.int .i64 0),(.string .empty),(.bool false)] [(2,1,(.c (.string ⟨#[98,111,117,110,100,115]⟩)))]),
 o2 (.store 4 (.t 8) (.t 58))]) .ret) (.seq (.region [0,6,7,8,9,10,11,12,59] [o0 60 (.mv (.t 12)),
 o0 61 (.mv (.t 10)),
 o0 62 (.bin .lss (.t 60) (.t 61)),
 o0 59 (.mv (.t 62))]) (.cond (.t 59) (.seq (.region [8] [o0 63 (.mv (.t 9)),
 o0 64 (.nilCheck (.t 63)),
 o0 65 (.fieldA 2 (.t 64)),
 o0 66 (.load none (.t 65)),
 o0 67 (.mv (.t 12)),
 o0 68 (.load (some 2) (.t 7)),
 o0 69 (.idxA 2 (.t 66) (.t 67)),
 o2 (.store 2 (.t 69) (.t 68))]) (.seq (.region [8] [o0 70 (.build [(.int .u8 0),(.int .i64 0),(.string .empty),(.bool false)] []),
 o2 (.store 4 (.t 8) (.t 70))]) .ret)) (.seq (.region [0,6,7,8,9,10,11,71] [o0 72 (.mv (.t 10)),
 o0 73 (.mv (.t 11)),
 o0 74 (.bin .mul (.t 73) (.c (.int .i64 65536))),
 o0 75 (.bin .geq (.t 72) (.t 74)),
 o0 71 (.mv (.t 75))]) (.cond (.t 71) (.seq (.region [8] [o0 76 (.build [(.int .u8 0),(.int .i64 0),(.string .empty),(.bool false)] [(2,1,(.c (.string ⟨#[105,116,101,109,115]⟩)))]),
 o2 (.store 4 (.t 8) (.t 76))]) .ret) .skip))))))) (.seq (.seq (.region [0,6,7,8,9,10,11,14] [o0 77 (.mv (.t 9)),
 o0 78 (.nilCheck (.t 77)),
 o0 79 (.fieldA 3 (.t 78)),
 o0 80 (.load none (.t 79)),
 o0 14 (.mv (.t 80))]) (.seq (.region [0,6,7,8,9,11,14,85] [o0 81 (.mv (.t 14)),
 o0 82 (.mv (.t 10)),
 o0 83 (.mv (.t 11)),
 o0 84 (.bin .add (.t 82) (.t 83)),
 o0 85 (.bin .lss (.t 81) (.t 84))]) (.cond (.t 85) (.seq (.region [0,6,7,8,9,11,14] [o0 86 (.mv (.t 11)),
 o0 87 (.bin .mul (.c (.int .i64 4)) (.t 86)),
 o0 88 (.mv (.t 14)),
 o0 89 (.bin .mul (.c (.int .i64 2)) (.t 88)),
 o0 90 (.minmax false (.t 87) (.t 89)),
 o0 14 (.mv (.t 90))]) (.seq (.seq (.region [6,7,8,9,11,14,96] [o0 91 (.mv (.t 0)),
 o0 92 (.mv (.t 14)),
 o0 93 (.bin .mul (.c (.int .i64 2)) (.t 92)),
 o0 94 (.bin .add (.c (.int .i64 1)) (.t 93)),
 o0 95 (.call .share 218 [(.t 91),(.t 94)]),
 o0 96 (.un .not (.t 95))]) (.cond (.t 96) (.seq (.region [8] [o0 97 (.build [(.int .u8 0),(.int .i64 0),(.string .empty),(.bool false)] [(3,1,(.c (.bool true)))]),
 o2 (.store 4 (.t 8) (.t 97))]) .ret) .skip)) (.region [6,7,8,9,11] [o0 98 (.mv (.t 9)),
 o0 99 (.mv (.t 14)),
 o0 100 (.nilCheck (.t 98)),
 o0 101 (.fieldA 3 (.t 100)),
 o2 (.store 1 (.t 101) (.t 99))]))) .skip))) (.seq (.seq (.region [6,7,8,9,103] [o0 102 (.mv (.t 11)),
 o0 103 (.bin .eql (.t 102) (.c (.int .i64 2)))]) (.cond (.t 103) (.region [7,8,9] [o0 104 (.mv (.t 9)),
 o0 105 (.mv (.t 9)),
 o0 106 (.nilCheck (.t 105)),
 o0 107 (.fieldA 2 (.t 106)),
 o0 108 (.load none (.t 107)),
 o0 109 (.load (some 2) (.t 6)),
 o0 110 (.buildSlice 2 [(.int .u8 0),(.int .i64 0)] 1 [(0,2,(.t 109))]),
 o0 111 (.append 2 16 (.t 108) (.t 110)),
 o0 112 (.nilCheck (.t 104)),
 o0 113 (.fieldA 2 (.t 112)),
 o2 (.store 1 (.t 113) (.t 111))]) .skip)) (.seq (.region [8] [o0 114 (.mv (.t 9)),
 o0 115 (.mv (.t 9)),
 o0 116 (.nilCheck (.t 115)),
 o0 117 (.fieldA 2 (.t 116)),
 o0 118 (.load none (.t 117)),
 o0 119 (.load (some 2) (.t 7)),
 o0 120 (.buildSlice 2 [(.int .u8 0),(.int .i64 0)] 1 [(0,2,(.t 119))]),
 o0 121 (.append 2 16 (.t 118) (.t 120)),
 o0 122 (.nilCheck (.t 114)),
 o0 123 (.fieldA 2 (.t 122)),
 o2 (.store 1 (.t 123) (.t 121))]) (.seq (.region [8] [o0 124 (.build [(.int .u8 0),(.int .i64 0),(.string .empty),(.bool false)] []),
 o2 (.store 4 (.t 8) (.t 124))]) .ret))))))))))⟩
def x357L1:XCode:=
 (.seq (.seq (.region [0,1,5,14] [o0 11 (.mv (.t 5)),
 o0 12 (.mv (.t 0)),
 o0 13 (.len (.t 12)),
 o0 14 (.bin .lss (.t 11) (.t 13))]) (.cond (.t 14) .skip (.exit 0))) (.seq (.block 1 (.seq (.region [0,1,5,25] [o0 17 (.mv (.t 0)),
 o0 18 (.mv (.t 5)),
 o0 19 (.idxA 2 (.t 17) (.t 18)),
 o0 20 (.load (some 2) (.t 19)),
 o0 21 (.mv (.t 1)),
 o0 22 (.mv (.t 5)),
 o0 23 (.idxA 2 (.t 21) (.t 22)),
 o0 24 (.load (some 2) (.t 23)),
 o0 25 (.eqCells true [0,0] (.t 20) (.t 24))]) (.cond (.t 25) (.seq (.region [4] [o0 4 (.mv (.c (.bool false)))]) .ret) .skip))) (.region [0,1,5] [o0 15 (.mv (.t 5)),
 o0 16 (.bin .add (.t 15) (.c (.int .i64 1))),
 o0 5 (.mv (.t 16))])))
def x357:XFun:=
 sameC111f x357L1
def x218:XFun:=
 ⟨[.tmp 4],(.seq (.region [0,1] [o0 4 (.mv (.c (.bool false)))]) (.seq (.seq (.region [0,1,15] [o0 5 (.mv (.t 0)),
 o0 6 (.nilCheck (.t 5)),
 o0 7 (.fieldA 2 (.t 6)),
 o0 8 (.load none (.t 7)),
 o0 9 (.mv (.t 1)),
 o0 10 (.bin .add (.t 8) (.t 9)),
 o0 11 (.mv (.t 0)),
 o0 12 (.nilCheck (.t 11)),
 o0 13 (.fieldA 1 (.t 12)),
 o0 14 (.load none (.t 13)),
 o0 15 (.bin .gtr (.t 10) (.t 14))]) (.cond (.t 15) (.seq (.region [4] [o0 4 (.mv (.c (.bool false)))]) .ret) .skip)) (.seq (.region [] [o0 16 (.mv (.t 0)),
 o0 17 (.nilCheck (.t 16)),
 o0 18 (.fieldA 2 (.t 17)),
 o0 19 (.load none (.t 18)),
 o0 20 (.mv (.t 1)),
 o0 21 (.bin .add (.t 19) (.t 20)),
 o0 22 (.nilCheck (.t 16)),
 o0 23 (.fieldA 2 (.t 22)),
 o2 (.store 1 (.t 23) (.t 21))]) (.seq (.region [4] [o0 4 (.mv (.c (.bool true)))]) .ret))))⟩
def x216:XFun:=
 ⟨[.tmp 6],(.seq (.region [0,4,5] [o0 4 (.box 2 (.t 1)),
 o0 5 (.box 2 (.t 2)),
 o0 6 (.mv (.c (.bool false)))]) (.seq (.block 0 (.seq (.region [0,4,5,7] [o0 8 (.fieldA 0 (.t 4)),
 o0 9 (.load none (.t 8)),
 o0 10 (.fieldA 0 (.t 5)),
 o0 11 (.load none (.t 10)),
 o0 12 (.bin .neq (.t 9) (.t 11)),
 o0 7 (.mv (.t 12))]) (.cond (.t 7) (.seq (.region [6] [o0 6 (.mv (.c (.bool false)))]) .ret) (.seq (.region [0,4,5,13] [o0 14 (.fieldA 0 (.t 4)),
 o0 15 (.load none (.t 14)),
 o0 16 (.bin .eql (.t 15) (.c (.int .u8 3))),
 o0 13 (.mv (.t 16))]) (.cond (.t 13) (.seq (.region [6] [o0 17 (.mv (.t 0)),
 o0 18 (.load (some 2) (.t 4)),
 o0 19 (.call .look 213 [(.t 17),(.t 18)]),
 o0 20 (.nilCheck (.t 19)),
 o0 21 (.fieldA 1 (.t 20)),
 o0 22 (.load none (.t 21)),
 o0 23 (.mv (.t 0)),
 o0 24 (.load (some 2) (.t 5)),
 o0 25 (.call .look 213 [(.t 23),(.t 24)]),
 o0 26 (.nilCheck (.t 25)),
 o0 27 (.fieldA 1 (.t 26)),
 o0 28 (.load none (.t 27)),
 o0 29 (.bin .eql (.t 22) (.t 28)),
 o0 6 (.mv (.t 29))]) .ret) .skip))))) (.seq (.region [6] [o0 30 (.fieldA 0 (.t 4)),
 o0 31 (.load none (.t 30)),
 o0 32 (.bin .eql (.t 31) (.c (.int .u8 0))),
 o0 33 (.mv (.t 32)),
 o1 34 33 false (.fieldA 1 (.t 4)),
 o1 35 33 false (.load none (.t 34)),
 o1 36 33 false (.fieldA 1 (.t 5)),
 o1 37 33 false (.load none (.t 36)),
 o1 38 33 false (.bin .eql (.t 35) (.t 37)),
 o0 39 (.pick (.t 33) (.c (.bool true)) (.t 38)),
 o0 6 (.mv (.t 39))]) .ret)))⟩
def x579L1:XCode:=
 (.seq (.region [0,1,2,6,10,11,12,13] [o0 13 (.bin .lss (.t 12) (.t 11))]) (.seq (.cond (.t 13) .skip (.exit 0)) (.seq (.block 1 (.seq (.region [0,1,2,6,9,10,11,12] [o0 14 (.idxA 2 (.t 10) (.t 12)),
 o0 15 (.load (some 2) (.t 14)),
 o0 9 (.alloc [(.int .u8 0),.nilFunc]),
 o2 (.store 2 (.t 9) (.t 15))]) (.seq (.region [0,1,2,6,9,10,11,12,19] [o0 16 (.fieldA 0 (.t 9)),
 o0 17 (.load none (.t 16)),
 o0 18 (.mv (.t 0)),
 o0 19 (.bin .eql (.t 17) (.t 18))]) (.cond (.t 19) (.seq (.region [6,7] [o0 20 (.fieldA 1 (.t 9)),
 o0 21 (.load none (.t 20)),
 o0 22 (.mv (.t 1)),
 o0 23 (.mv (.t 2)),
 o0 24 (.callV (.t 21) [(.t 22),(.t 23)]),
 o2 (.store 2 (.t 6) (.t 24)),
 o0 7 (.mv (.c (.string .empty)))]) .ret) .skip)))) (.region [0,1,2,6,10,11,12] [o0 25 (.bin .add (.t 12) (.c (.int .i64 1))),
 o0 12 (.mv (.t 25))]))))
def x579:XFun:=
 ⟨[.cell 6 (some 2),.tmp 7],(.seq (.region [0,1,2,6] [o0 6 (.alloc [(.int .u8 0),(.int .i64 0)]),
 o0 7 (.mv (.c (.string .empty)))]) (.seq (.seq (.region [0,1,2,6,10,11,12] [o0 10 (.call .own 582 []),
 o0 11 (.len (.t 10)),
 o0 12 (.mv (.c (.int .i64 0)))]) (.block 0 (.loop [0,1,2,6,10,11,12] x579L1))) (.seq (.block 2 (.seq (.region [0,1,2,6,26] [o0 27 (.mv (.t 0)),
 o0 28 (.bin .neq (.t 27) (.c (.int .u8 4))),
 o0 29 (.mv (.t 28)),
 o1 30 29 true (.mv (.t 0)),
 o1 31 29 true (.bin .neq (.t 30) (.c (.int .u8 5))),
 o0 32 (.pick (.t 29) (.t 31) (.c (.bool false))),
 o0 26 (.mv (.t 32))]) (.cond (.t 26) (.seq (.region [6,7] [o0 33 (.build [(.int .u8 0),(.int .i64 0)] []),
 o2 (.store 2 (.t 6) (.t 33)),
 o0 7 (.mv (.c (.string ⟨#[107,105,110,100]⟩)))]) .ret) (.seq (.region [0,1,2,6,34] [o0 35 (.mv (.t 2)),
 o0 36 (.bin .eql (.t 35) (.c (.int .i64 0))),
 o0 34 (.mv (.t 36))]) (.cond (.t 34) (.seq (.region [6,7] [o0 37 (.build [(.int .u8 0),(.int .i64 0)] []),
 o2 (.store 2 (.t 6) (.t 37)),
 o0 7 (.mv (.c (.string ⟨#[122,101,114,111]⟩)))]) .ret) (.seq (.region [0,1,2,6,38] [o0 39 (.mv (.t 2)),
 o0 40 (.bin .eql (.t 39) (.c (.int .i64 (-1)))),
 o0 41 (.mv (.t 40)),
 o1 42 41 true (.mv (.t 0)),
 o1 43 41 true (.bin .eql (.t 42) (.c (.int .u8 4))),
 o0 44 (.pick (.t 41) (.t 43) (.c (.bool false))),
 o0 38 (.mv (.t 44))]) (.cond (.t 38) (.seq (.region [6,7] [o0 45 (.mv (.t 1)),
 o0 46 (.un .neg (.t 45)),
 o0 47 (.call .view 589 [.t 46]),
 o2 (.store 2 (.t 6) (.t 47)),
 o0 7 (.mv (.c (.string .empty)))]) .ret) (.seq (.region [0,1,2,6,48] [o0 49 (.mv (.t 2)),
 o0 50 (.bin .eql (.t 49) (.c (.int .i64 (-1)))),
 o0 48 (.mv (.t 50))]) (.cond (.t 48) (.seq (.region [6,7] [o0 51 (.call .view 589 [(.c (.int .i64 0))]),
 o2 (.store 2 (.t 6) (.t 51)),
 o0 7 (.mv (.c (.string .empty)))]) .ret) (.seq (.region [1,2,6,52] [o0 53 (.mv (.t 0)),
 o0 54 (.bin .eql (.t 53) (.c (.int .u8 4))),
 o0 52 (.mv (.t 54))]) (.cond (.t 52) (.seq (.region [6,7] [o0 55 (.mv (.t 1)),
 o0 56 (.mv (.t 2)),
 o0 57 (.bin .quo (.t 55) (.t 56)),
 o0 58 (.call .view 589 [.t 57]),
 o2 (.store 2 (.t 6) (.t 58)),
 o0 7 (.mv (.c (.string .empty)))]) .ret) .skip))))))))))) (.seq (.region [6,7] [o0 59 (.mv (.t 1)),
 o0 60 (.mv (.t 2)),
 o0 61 (.bin .rem (.t 59) (.t 60)),
 o0 62 (.call .view 589 [.t 61]),
 o2 (.store 2 (.t 6) (.t 62)),
 o0 7 (.mv (.c (.string .empty)))]) .ret))))⟩
def x213:XFun:=
 ⟨[.tmp 4],(.seq (.region [0,3] [o0 3 (.box 2 (.t 1)),
 o0 4 (.mv (.c (.pointer none)))]) (.seq (.region [4] [o0 5 (.mv (.t 0)),
 o0 6 (.nilCheck (.t 5)),
 o0 7 (.fieldA 0 (.t 6)),
 o0 8 (.load none (.t 7)),
 o0 9 (.fieldA 1 (.t 3)),
 o0 10 (.load none (.t 9)),
 o0 11 (.bin .sub (.t 10) (.c (.int .i64 1))),
 o0 12 (.idxA 5 (.t 8) (.t 11)),
 o0 4 (.mv (.t 12))]) .ret))⟩
def x209L1:XCode:=
 (.seq (.seq (.region [0,1,5,7,11] [o0 8 (.mv (.t 7)),
 o0 9 (.mv (.t 1)),
 o0 10 (.len (.t 9)),
 o0 11 (.bin .lss (.t 8) (.t 10))]) (.cond (.t 11) .skip (.exit 0))) (.seq (.block 1 (.seq (.region [0,1,5,7,20] [o0 14 (.mv (.t 0)),
 o0 15 (.mv (.t 1)),
 o0 16 (.mv (.t 7)),
 o0 17 (.idxA 2 (.t 15) (.t 16)),
 o0 18 (.load (some 2) (.t 17)),
 o0 19 (.load (some 2) (.t 5)),
 o0 20 (.call .peek 216 [(.t 14),(.t 18),(.t 19)])]) (.cond (.t 20) (.seq (.region [6] [o0 21 (.mv (.t 7)),
 o0 6 (.mv (.t 21))]) .ret) .skip))) (.region [0,1,5,7] [o0 12 (.mv (.t 7)),
 o0 13 (.bin .add (.t 12) (.c (.int .i64 2))),
 o0 7 (.mv (.t 13))])))
def x209:XFun:=
 ⟨[.tmp 6],(.seq (.region [0,1,5] [o0 5 (.box 2 (.t 2)),
 o0 6 (.mv (.c (.int .i64 0)))]) (.seq (.seq (.region [0,1,5,7] [o0 7 (.mv (.c (.int .i64 0)))]) (.block 0 (.loop [0,1,5,7] x209L1))) (.seq (.region [6] [o0 6 (.mv (.c (.int .i64 (-1))))]) .ret)))⟩
def x581:XFun:=
 ⟨[.tmp 4],(.seq (.region [2,3] [o0 2 (.box 2 (.t 0)),
 o0 3 (.box 2 (.t 1)),
 o0 4 (.mv (.c (.bool false)))]) (.seq (.region [4] [o0 5 (.fieldA 0 (.t 2)),
 o0 6 (.load none (.t 5)),
 o0 7 (.bin .eql (.t 6) (.c (.int .u8 5))),
 o0 8 (.mv (.t 7)),
 o1 9 8 false (.fieldA 0 (.t 2)),
 o1 10 8 false (.load none (.t 9)),
 o1 11 8 false (.bin .eql (.t 10) (.c (.int .u8 4))),
 o1 12 8 false (.mv (.t 11)),
 o1 13 12 false (.fieldA 0 (.t 2)),
 o1 14 12 false (.load none (.t 13)),
 o1 15 12 false (.bin .eql (.t 14) (.c (.int .u8 3))),
 o1 16 8 false (.pick (.t 12) (.c (.bool true)) (.t 15)),
 o1 17 8 false (.mv (.t 16)),
 o1 18 17 true (.fieldA 0 (.t 3)),
 o1 19 17 true (.load none (.t 18)),
 o1 20 17 true (.bin .eql (.t 19) (.c (.int .u8 2))),
 o1 21 8 false (.pick (.t 17) (.t 20) (.c (.bool false))),
 o0 22 (.pick (.t 8) (.c (.bool true)) (.t 21)),
 o0 4 (.mv (.t 22))]) .ret))⟩
def x582:XFun:=
 ⟨[.tmp 0],(.seq (.region [] [o0 0 (.mv (.c (.slice none 0 0)))]) (.seq (.region [0] [o0 1 (.build [(.int .u8 0),.nilFunc] [(0,1,(.c (.int .u8 1))),(1,1,(.f 583))]),
 o0 2 (.build [(.int .u8 0),.nilFunc] [(0,1,(.c (.int .u8 2))),(1,1,(.f 584))]),
 o0 3 (.build [(.int .u8 0),.nilFunc] [(0,1,(.c (.int .u8 3))),(1,1,(.f 585))]),
 o0 4 (.build [(.int .u8 0),.nilFunc] [(0,1,(.c (.int .u8 6))),(1,1,(.f 586))]),
 o0 5 (.build [(.int .u8 0),.nilFunc] [(0,1,(.c (.int .u8 7))),(1,1,(.f 587))]),
 o0 6 (.buildSlice 2 [(.int .u8 0),.nilFunc] 5 [(0,2,(.t 1)),(2,2,(.t 2)),(4,2,(.t 3)),(6,2,(.t 4)),(8,2,(.t 5))]),
 o0 0 (.mv (.t 6))]) .ret))⟩
def x589:XFun:=
 ⟨[.cell 2 (some 2)],(.seq (.region [0,2] [o0 2 (.alloc [(.int .u8 0),(.int .i64 0)])]) (.seq (.region [2] [o0 3 (.mv (.t 0)),
 o0 4 (.build [(.int .u8 0),(.int .i64 0)] [(0,1,(.c (.int .u8 2))),(1,1,(.t 3))]),
 o2 (.store 2 (.t 2) (.t 4))]) .ret))⟩
def x583:XFun:=
 ⟨[.cell 4 (some 2)],(.seq (.region [0,1,4] [o0 4 (.alloc [(.int .u8 0),(.int .i64 0)])]) (.seq (.region [4] [o0 5 (.mv (.t 0)),
 o0 6 (.mv (.t 1)),
 o0 7 (.bin .add (.t 5) (.t 6)),
 o0 8 (.call .view 589 [.t 7]),
 o2 (.store 2 (.t 4) (.t 8))]) .ret))⟩
def x584:XFun:=
 ⟨[.cell 4 (some 2)],(.seq (.region [0,1,4] [o0 4 (.alloc [(.int .u8 0),(.int .i64 0)])]) (.seq (.region [4] [o0 5 (.mv (.t 0)),
 o0 6 (.mv (.t 1)),
 o0 7 (.bin .sub (.t 5) (.t 6)),
 o0 8 (.call .view 589 [.t 7]),
 o2 (.store 2 (.t 4) (.t 8))]) .ret))⟩
def x585:XFun:=
 ⟨[.cell 4 (some 2)],(.seq (.region [0,1,4] [o0 4 (.alloc [(.int .u8 0),(.int .i64 0)])]) (.seq (.region [4] [o0 5 (.mv (.t 0)),
 o0 6 (.mv (.t 1)),
 o0 7 (.bin .mul (.t 5) (.t 6)),
 o0 8 (.call .view 589 [.t 7]),
 o2 (.store 2 (.t 4) (.t 8))]) .ret))⟩
def x586:XFun:=
 ⟨[.cell 4 (some 2)],(.seq (.region [0,1,4] [o0 4 (.alloc [(.int .u8 0),(.int .i64 0)])]) (.seq (.region [4] [o0 5 (.mv (.t 0)),
 o0 6 (.mv (.t 1)),
 o0 7 (.bin .lss (.t 5) (.t 6)),
 o0 8 (.call .view 588 [.t 7]),
 o2 (.store 2 (.t 4) (.t 8))]) .ret))⟩
def x587:XFun:=
 ⟨[.cell 4 (some 2)],(.seq (.region [0,1,4] [o0 4 (.alloc [(.int .u8 0),(.int .i64 0)])]) (.seq (.region [4] [o0 5 (.mv (.t 0)),
 o0 6 (.mv (.t 1)),
 o0 7 (.bin .leq (.t 5) (.t 6)),
 o0 8 (.call .view 588 [.t 7]),
 o2 (.store 2 (.t 4) (.t 8))]) .ret))⟩
end Go.EX


namespace Go.EX
def x488:XFun:=
 ⟨[.tmp 2],(.seq (.region [0] [o0 2 (.mv (.c (.pointer none)))]) (.seq (.region [2] [o0 3 (.mv (.t 0)),
 o0 4 (.call .own 377 [.t 3]),
 o0 5 (.build [(.slice none 0 0)] [(0,1,(.t 4))]),
 o0 6 (.box 1 (.t 5)),
 o0 2 (.mv (.t 6))]) .ret))⟩
def x490:XFun:=
 ⟨[.tmp 10],(.seq (.region [1,3,4,5,7] [o0 5 (.box 5 (.t 0)),
 o0 7 (.box 4 (.t 2)),
 o0 10 (.mv (.c (.bool false)))]) (.seq (.region [10] [o0 11 (.fieldA 0 (.t 5)),
 o0 12 (.load none (.t 11)),
 o0 13 (.mv (.t 1)),
 o0 14 (.nilCheck (.t 13)),
 o0 15 (.fieldA 0 (.t 14)),
 o0 16 (.load none (.t 15)),
 o0 17 (.call .view 355 [(.t 12),(.t 16)]),
 o0 18 (.mv (.t 17)),
 o1 19 18 true (.fieldA 1 (.t 5)),
 o1 20 18 true (.load (some 2) (.t 19)),
 o1 21 18 true (.fieldA 0 (.t 7)),
 o1 22 18 true (.load (some 2) (.t 21)),
 o1 23 18 true (.eqCells false [0,0] (.t 20) (.t 22)),
 o0 24 (.pick (.t 18) (.t 23) (.c (.bool false))),
 o0 25 (.mv (.t 24)),
 o1 26 25 true (.fieldA 3 (.t 5)),
 o1 27 25 true (.load none (.t 26)),
 o1 28 25 true (.fieldA 2 (.t 7)),
 o1 29 25 true (.load none (.t 28)),
 o1 30 25 true (.bin .eql (.t 27) (.t 29)),
 o0 31 (.pick (.t 25) (.t 30) (.c (.bool false))),
 o0 32 (.mv (.t 31)),
 o1 33 32 true (.fieldA 4 (.t 5)),
 o1 34 32 true (.load none (.t 33)),
 o1 35 32 true (.load (some 4) (.t 7)),
 o1 36 32 true (.call .view 492 [.t 35]),
 o1 37 32 true (.bin .eql (.t 34) (.t 36)),
 o0 38 (.pick (.t 32) (.t 37) (.c (.bool false))),
 o0 39 (.mv (.t 38)),
 o1 40 39 true (.mv (.t 3)),
 o1 41 39 true (.mv (.t 4)),
 o1 42 39 true (.call .view 334 [(.t 40),(.t 41)]),
 o0 43 (.pick (.t 39) (.t 42) (.c (.bool false))),
 o0 10 (.mv (.t 43))]) .ret))⟩
def x163:XFun:=
 ⟨[.cell 6 (some 4)],(.seq (.region [0,1,2,6] [o0 6 (.alloc [(.int .u8 0),(.int .i64 0),(.string .empty),(.int .i64 0)])]) (.seq (.seq (.region [0,1,2,6,9] [o0 7 (.mv (.t 1)),
 o0 8 (.lenS (.t 7)),
 o0 9 (.bin .gtr (.t 8) (.c (.int .i64 4096)))]) (.cond (.t 9) (.seq (.region [6] [o0 10 (.call .view 562 [(.c (.string ⟨#[103,114,101,97,116]⟩))]),
 o2 (.store 4 (.t 6) (.t 10))]) .ret) .skip)) (.seq (.region [6] [o0 11 (.mv (.t 0)),
 o0 12 (.mv (.t 1)),
 o0 13 (.build [(.int .u8 0),(.string .empty),(.slice none 0 0),(.int .i64 0),(.int .i64 0)] [(0,1,(.c (.int .u8 3))),(1,1,(.t 12))]),
 o0 14 (.mv (.t 2)),
 o0 15 (.call .share 165 [(.t 11),(.t 13),(.t 14)]),
 o2 (.store 4 (.t 6) (.t 15))]) .ret)))⟩
def x1:XFun:=
 ⟨[.tmp 2],(.seq (.region [0] [⟨some 2,.mv (.c (.bool false)),none⟩]) (.seq (.region [0] [⟨some 3,.mv (.t 0),none⟩,
 ⟨some 4,.call .share 25 [.t 3],none⟩]) (.seq (.region [0] [⟨some 5,.mv (.t 0),none⟩,
 ⟨some 6,.call .share 29 [.t 5],none⟩]) (.seq (.region [0] [⟨some 7,.mv (.t 0),none⟩,
 ⟨some 8,.call .share 33 [.t 7],none⟩]) (.seq (.region [0] [⟨some 9,.mv (.t 0),none⟩,
 ⟨some 10,.call .share 34 [.t 9],none⟩]) (.seq (.region [0] [⟨some 11,.mv (.t 0),none⟩,
 ⟨some 12,.call .share 28 [.t 11],none⟩]) (.seq (.region [0] [⟨some 13,.mv (.t 0),none⟩,
 ⟨some 14,.call .share 24 [.t 13],none⟩]) (.seq (.region [0] [⟨some 15,.mv (.t 0),none⟩,
 ⟨some 16,.call .share 18 [.t 15],none⟩]) (.seq (.region [0] [⟨some 17,.mv (.t 0),none⟩,
 ⟨some 18,.call .share 17 [.t 17],none⟩]) (.seq (.region [0] [⟨some 19,.mv (.t 0),none⟩,
 ⟨some 20,.call .share 23 [.t 19],none⟩]) (.seq (.region [0] [⟨some 21,.mv (.t 0),none⟩,
 ⟨some 22,.call .share 22 [.t 21],none⟩]) (.seq (.region [0] [⟨some 23,.mv (.t 0),none⟩,
 ⟨some 24,.call .share 21 [.t 23],none⟩]) (.seq (.region [0] [⟨some 25,.mv (.t 0),none⟩,
 ⟨some 26,.call .share 32 [.t 25],none⟩]) (.seq (.region [0] [⟨some 27,.mv (.t 0),none⟩,
 ⟨some 28,.call .share 35 [.t 27],none⟩]) (.seq (.region [0] [⟨some 29,.mv (.t 0),none⟩,
 ⟨some 30,.call .share 30 [.t 29],none⟩]) (.seq (.region [0] [⟨some 31,.mv (.t 0),none⟩,
 ⟨some 32,.call .share 26 [.t 31],none⟩]) (.seq (.region [0] [⟨some 33,.mv (.t 0),none⟩,
 ⟨some 34,.call .share 20 [.t 33],none⟩]) (.seq (.region [0] [⟨some 35,.mv (.t 0),none⟩,
 ⟨some 36,.call .share 19 [.t 35],none⟩]) (.seq (.region [0] [⟨some 37,.mv (.t 0),none⟩,
 ⟨some 38,.call .share 27 [.t 37],none⟩]) (.seq (.region [0] [⟨some 39,.mv (.t 0),none⟩,
 ⟨some 40,.call .share 16 [.t 39],none⟩]) (.seq (.region [0] [⟨some 41,.mv (.t 0),none⟩,
 ⟨some 42,.call .share 31 [.t 41],none⟩]) (.seq (.region [0] [⟨some 43,.mv (.t 0),none⟩,
 ⟨some 44,.call .share 45 [.t 43],none⟩]) (.seq (.region [0] [⟨some 45,.mv (.t 0),none⟩,
 ⟨some 46,.call .share 49 [.t 45],none⟩]) (.seq (.region [0] [⟨some 47,.mv (.t 0),none⟩,
 ⟨some 48,.call .share 53 [.t 47],none⟩]) (.seq (.region [0] [⟨some 49,.mv (.t 0),none⟩,
 ⟨some 50,.call .share 54 [.t 49],none⟩]) (.seq (.region [0] [⟨some 51,.mv (.t 0),none⟩,
 ⟨some 52,.call .share 48 [.t 51],none⟩]) (.seq (.region [0] [⟨some 53,.mv (.t 0),none⟩,
 ⟨some 54,.call .share 44 [.t 53],none⟩]) (.seq (.region [0] [⟨some 55,.mv (.t 0),none⟩,
 ⟨some 56,.call .share 38 [.t 55],none⟩]) (.seq (.region [0] [⟨some 57,.mv (.t 0),none⟩,
 ⟨some 58,.call .share 37 [.t 57],none⟩]) (.seq (.region [0] [⟨some 59,.mv (.t 0),none⟩,
 ⟨some 60,.call .share 43 [.t 59],none⟩]) (.seq (.region [0] [⟨some 61,.mv (.t 0),none⟩,
 ⟨some 62,.call .share 42 [.t 61],none⟩]) (.seq (.region [0] [⟨some 63,.mv (.t 0),none⟩,
 ⟨some 64,.call .share 41 [.t 63],none⟩]) (.seq (.region [0] [⟨some 65,.mv (.t 0),none⟩,
 ⟨some 66,.call .share 52 [.t 65],none⟩]) (.seq (.region [0] [⟨some 67,.mv (.t 0),none⟩,
 ⟨some 68,.call .share 55 [.t 67],none⟩]) (.seq (.region [0] [⟨some 69,.mv (.t 0),none⟩,
 ⟨some 70,.call .share 50 [.t 69],none⟩]) (.seq (.region [0] [⟨some 71,.mv (.t 0),none⟩,
 ⟨some 72,.call .share 46 [.t 71],none⟩]) (.seq (.region [0] [⟨some 73,.mv (.t 0),none⟩,
 ⟨some 74,.call .share 40 [.t 73],none⟩]) (.seq (.region [0] [⟨some 75,.mv (.t 0),none⟩,
 ⟨some 76,.call .share 39 [.t 75],none⟩]) (.seq (.region [0] [⟨some 77,.mv (.t 0),none⟩,
 ⟨some 78,.call .share 47 [.t 77],none⟩]) (.seq (.region [0] [⟨some 79,.mv (.t 0),none⟩,
 ⟨some 80,.call .share 36 [.t 79],none⟩]) (.seq (.region [0] [⟨some 81,.mv (.t 0),none⟩,
 ⟨some 82,.call .share 51 [.t 81],none⟩]) (.seq (.region [2] [⟨some 83,.mv (.t 0),none⟩,
 ⟨some 84,.call .share 75 [.t 83],none⟩,
 ⟨some 85,.mv (.t 84),none⟩,
 ⟨some 86,.mv (.t 0),some (85,true)⟩,
 ⟨some 87,.call .share 79 [.t 86],some (85,true)⟩,
 ⟨some 88,.pick (.t 85) (.t 87) (.c (.bool false)),none⟩,
 ⟨some 89,.mv (.t 88),none⟩,
 ⟨some 90,.mv (.t 0),some (89,true)⟩,
 ⟨some 91,.call .share 83 [.t 90],some (89,true)⟩,
 ⟨some 92,.pick (.t 89) (.t 91) (.c (.bool false)),none⟩,
 ⟨some 93,.mv (.t 92),none⟩,
 ⟨some 94,.mv (.t 0),some (93,true)⟩,
 ⟨some 95,.call .share 84 [.t 94],some (93,true)⟩,
 ⟨some 96,.pick (.t 93) (.t 95) (.c (.bool false)),none⟩,
 ⟨some 97,.mv (.t 96),none⟩,
 ⟨some 98,.mv (.t 0),some (97,true)⟩,
 ⟨some 99,.call .share 78 [.t 98],some (97,true)⟩,
 ⟨some 100,.pick (.t 97) (.t 99) (.c (.bool false)),none⟩,
 ⟨some 101,.mv (.t 100),none⟩,
 ⟨some 102,.mv (.t 0),some (101,true)⟩,
 ⟨some 103,.call .share 74 [.t 102],some (101,true)⟩,
 ⟨some 104,.pick (.t 101) (.t 103) (.c (.bool false)),none⟩,
 ⟨some 105,.mv (.t 104),none⟩,
 ⟨some 106,.mv (.t 0),some (105,true)⟩,
 ⟨some 107,.call .share 68 [.t 106],some (105,true)⟩,
 ⟨some 108,.pick (.t 105) (.t 107) (.c (.bool false)),none⟩,
 ⟨some 109,.mv (.t 108),none⟩,
 ⟨some 110,.mv (.t 0),some (109,true)⟩,
 ⟨some 111,.call .share 67 [.t 110],some (109,true)⟩,
 ⟨some 112,.pick (.t 109) (.t 111) (.c (.bool false)),none⟩,
 ⟨some 113,.mv (.t 112),none⟩,
 ⟨some 114,.mv (.t 0),some (113,true)⟩,
 ⟨some 115,.call .share 73 [.t 114],some (113,true)⟩,
 ⟨some 116,.pick (.t 113) (.t 115) (.c (.bool false)),none⟩,
 ⟨some 117,.mv (.t 116),none⟩,
 ⟨some 118,.mv (.t 0),some (117,true)⟩,
 ⟨some 119,.call .share 72 [.t 118],some (117,true)⟩,
 ⟨some 120,.pick (.t 117) (.t 119) (.c (.bool false)),none⟩,
 ⟨some 121,.mv (.t 120),none⟩,
 ⟨some 122,.mv (.t 0),some (121,true)⟩,
 ⟨some 123,.call .share 71 [.t 122],some (121,true)⟩,
 ⟨some 124,.pick (.t 121) (.t 123) (.c (.bool false)),none⟩,
 ⟨some 125,.mv (.t 124),none⟩,
 ⟨some 126,.mv (.t 0),some (125,true)⟩,
 ⟨some 127,.call .share 82 [.t 126],some (125,true)⟩,
 ⟨some 128,.pick (.t 125) (.t 127) (.c (.bool false)),none⟩,
 ⟨some 129,.mv (.t 128),none⟩,
 ⟨some 130,.mv (.t 0),some (129,true)⟩,
 ⟨some 131,.call .share 85 [.t 130],some (129,true)⟩,
 ⟨some 132,.pick (.t 129) (.t 131) (.c (.bool false)),none⟩,
 ⟨some 133,.mv (.t 132),none⟩,
 ⟨some 134,.mv (.t 0),some (133,true)⟩,
 ⟨some 135,.call .share 80 [.t 134],some (133,true)⟩,
 ⟨some 136,.pick (.t 133) (.t 135) (.c (.bool false)),none⟩,
 ⟨some 137,.mv (.t 136),none⟩,
 ⟨some 138,.mv (.t 0),some (137,true)⟩,
 ⟨some 139,.call .share 76 [.t 138],some (137,true)⟩,
 ⟨some 140,.pick (.t 137) (.t 139) (.c (.bool false)),none⟩,
 ⟨some 141,.mv (.t 140),none⟩,
 ⟨some 142,.mv (.t 0),some (141,true)⟩,
 ⟨some 143,.call .share 70 [.t 142],some (141,true)⟩,
 ⟨some 144,.pick (.t 141) (.t 143) (.c (.bool false)),none⟩,
 ⟨some 145,.mv (.t 144),none⟩,
 ⟨some 146,.mv (.t 0),some (145,true)⟩,
 ⟨some 147,.call .share 69 [.t 146],some (145,true)⟩,
 ⟨some 148,.pick (.t 145) (.t 147) (.c (.bool false)),none⟩,
 ⟨some 149,.mv (.t 148),none⟩,
 ⟨some 150,.mv (.t 0),some (149,true)⟩,
 ⟨some 151,.call .share 77 [.t 150],some (149,true)⟩,
 ⟨some 152,.pick (.t 149) (.t 151) (.c (.bool false)),none⟩,
 ⟨some 153,.mv (.t 152),none⟩,
 ⟨some 154,.mv (.t 0),some (153,true)⟩,
 ⟨some 155,.call .share 66 [.t 154],some (153,true)⟩,
 ⟨some 156,.pick (.t 153) (.t 155) (.c (.bool false)),none⟩,
 ⟨some 157,.mv (.t 156),none⟩,
 ⟨some 158,.mv (.t 0),some (157,true)⟩,
 ⟨some 159,.call .share 81 [.t 158],some (157,true)⟩,
 ⟨some 160,.pick (.t 157) (.t 159) (.c (.bool false)),none⟩,
 ⟨some 2,.mv (.t 160),none⟩]) .ret))))))))))))))))))))))))))))))))))))))))))⟩
def x152L1:XCode:=
 (.seq (.seq (.region [0,1,5,9] [o0 6 (.mv (.t 5)),
 o0 7 (.mv (.t 1)),
 o0 8 (.len (.t 7)),
 o0 9 (.bin .lss (.t 6) (.t 8))]) (.cond (.t 9) .skip (.exit 0))) (.seq (.block 1 (.seq (.region [0,1,5,29] [o0 12 (.mv (.t 1)),
 o0 13 (.mv (.t 5)),
 o0 14 (.idxA 2 (.t 12) (.t 13)),
 o0 15 (.fieldA 0 (.t 14)),
 o0 16 (.load none (.t 15)),
 o0 17 (.bin .eql (.t 16) (.c (.int .u8 7))),
 o0 18 (.mv (.t 17)),
 o1 19 18 false (.mv (.t 0)),
 o1 20 18 false (.nilCheck (.t 19)),
 o1 21 18 false (.fieldA 0 (.t 20)),
 o1 22 18 false (.load none (.t 21)),
 o1 23 18 false (.mv (.t 1)),
 o1 24 18 false (.mv (.t 5)),
 o1 25 18 false (.idxA 2 (.t 23) (.t 24)),
 o1 26 18 false (.load (some 2) (.t 25)),
 o1 27 18 false (.call .view 500 [(.t 22),(.t 26)]),
 o1 28 18 false (.un .not (.t 27)),
 o0 29 (.pick (.t 18) (.c (.bool true)) (.t 28))]) (.cond (.t 29) (.seq (.region [4] [o0 4 (.mv (.c (.bool false)))]) .ret) .skip))) (.region [0,1,5] [o0 10 (.mv (.t 5)),
 o0 11 (.bin .add (.t 10) (.c (.int .i64 1))),
 o0 5 (.mv (.t 11))])))
def x152:XFun:=
 ⟨[.tmp 4],(.seq (.region [0,1] [o0 4 (.mv (.c (.bool false)))]) (.seq (.seq (.region [0,1,5] [o0 5 (.mv (.c (.int .i64 0)))]) (.block 0 (.loop [0,1,5] x152L1))) (.seq (.region [4] [o0 4 (.mv (.c (.bool true)))]) .ret)))⟩
def x562:XFun:=
 ⟨[.cell 2 (some 4)],(.seq (.region [0,2] [o0 2 (.alloc [(.int .u8 0),(.int .i64 0),(.string .empty),(.int .i64 0)])]) (.seq (.region [2] [o0 3 (.mv (.t 0)),
 o0 4 (.build [(.int .u8 0),(.int .i64 0),(.string .empty),(.int .i64 0)] [(2,1,(.t 3))]),
 o2 (.store 4 (.t 2) (.t 4))]) .ret))⟩
def x557:XFun:=
 ⟨[.cell 2 (some 2)],(.seq (.region [0,2] [o0 2 (.alloc [(.int .u8 0),(.int .i64 0)])]) (.seq (.seq (.region [2,3] [o0 3 (.mv (.t 0))]) (.cond (.t 3) (.seq (.region [2] [o0 4 (.build [(.int .u8 0),(.int .i64 0)] [(0,1,(.c (.int .u8 1))),(1,1,(.c (.int .i64 1)))]),
 o2 (.store 2 (.t 2) (.t 4))]) .ret) .skip)) (.seq (.region [2] [o0 5 (.build [(.int .u8 0),(.int .i64 0)] [(0,1,(.c (.int .u8 1)))]),
 o2 (.store 2 (.t 2) (.t 5))]) .ret)))⟩
def x161:XFun:=
 ⟨[.tmp 6],(.seq (.region [0,4,5] [o0 4 (.box 2 (.t 1)),
 o0 5 (.box 2 (.t 2)),
 o0 6 (.mv (.c (.bool false)))]) (.seq (.seq (.region [0,4,5,11] [o0 7 (.fieldA 0 (.t 4)),
 o0 8 (.load none (.t 7)),
 o0 9 (.fieldA 0 (.t 5)),
 o0 10 (.load none (.t 9)),
 o0 11 (.bin .neq (.t 8) (.t 10))]) (.cond (.t 11) (.seq (.region [6] [o0 6 (.mv (.c (.bool false)))]) .ret) .skip)) (.seq (.seq (.region [0,4,5,14] [o0 12 (.fieldA 0 (.t 4)),
 o0 13 (.load none (.t 12)),
 o0 14 (.bin .eql (.t 13) (.c (.int .u8 3)))]) (.cond (.t 14) (.seq (.region [6] [o0 15 (.mv (.t 0)),
 o0 16 (.load (some 2) (.t 4)),
 o0 17 (.call .view 166 [(.t 15),(.t 16)]),
 o0 18 (.field 1 none (.t 17)),
 o0 19 (.mv (.t 0)),
 o0 20 (.load (some 2) (.t 5)),
 o0 21 (.call .view 166 [(.t 19),(.t 20)]),
 o0 22 (.field 1 none (.t 21)),
 o0 23 (.bin .eql (.t 18) (.t 22)),
 o0 6 (.mv (.t 23))]) .ret) .skip)) (.seq (.region [6] [o0 24 (.fieldA 0 (.t 4)),
 o0 25 (.load none (.t 24)),
 o0 26 (.bin .eql (.t 25) (.c (.int .u8 0))),
 o0 27 (.mv (.t 26)),
 o1 28 27 false (.fieldA 1 (.t 4)),
 o1 29 27 false (.load none (.t 28)),
 o1 30 27 false (.fieldA 1 (.t 5)),
 o1 31 27 false (.load none (.t 30)),
 o1 32 27 false (.bin .eql (.t 29) (.t 31)),
 o0 33 (.pick (.t 27) (.c (.bool true)) (.t 32)),
 o0 6 (.mv (.t 33))]) .ret))))⟩
def x561:XFun:=
 ⟨[.cell 6 (some 4)],(.seq (.region [0,1,2,6] [o0 6 (.alloc [(.int .u8 0),(.int .i64 0),(.string .empty),(.int .i64 0)])]) (.seq (.seq (.region [0,1,2,6,7] [o0 7 (.mv (.t 0))]) (.block 0 (.seq (.region [0,1,2,6,7,8] [o0 9 (.bin .eql (.t 7) (.c (.int .u8 1))),
 o0 8 (.mv (.t 9))]) (.cond (.t 8) (.seq (.region [6] [o0 10 (.mv (.t 1)),
 o0 11 (.mv (.t 2)),
 o0 12 (.bin .add (.t 10) (.t 11)),
 o0 13 (.call .view 558 [.t 12]),
 o0 14 (.build [(.int .u8 0),(.int .i64 0),(.string .empty),(.int .i64 0)] [(0,2,(.t 13))]),
 o2 (.store 4 (.t 6) (.t 14))]) .ret) (.seq (.region [0,1,2,6,7,15] [o0 16 (.bin .eql (.t 7) (.c (.int .u8 2))),
 o0 15 (.mv (.t 16))]) (.cond (.t 15) (.seq (.region [6] [o0 17 (.mv (.t 1)),
 o0 18 (.mv (.t 2)),
 o0 19 (.bin .sub (.t 17) (.t 18)),
 o0 20 (.call .view 558 [.t 19]),
 o0 21 (.build [(.int .u8 0),(.int .i64 0),(.string .empty),(.int .i64 0)] [(0,2,(.t 20))]),
 o2 (.store 4 (.t 6) (.t 21))]) .ret) (.seq (.region [0,1,2,6,7,22] [o0 23 (.bin .eql (.t 7) (.c (.int .u8 3))),
 o0 22 (.mv (.t 23))]) (.cond (.t 22) (.seq (.region [6] [o0 24 (.mv (.t 1)),
 o0 25 (.mv (.t 2)),
 o0 26 (.bin .mul (.t 24) (.t 25)),
 o0 27 (.call .view 558 [.t 26]),
 o0 28 (.build [(.int .u8 0),(.int .i64 0),(.string .empty),(.int .i64 0)] [(0,2,(.t 27))]),
 o2 (.store 4 (.t 6) (.t 28))]) .ret) (.seq (.seq (.region [0,1,2,6,7,29] [o0 30 (.bin .eql (.t 7) (.c (.int .u8 4))),
 o0 29 (.mv (.t 30))]) (.cond (.t 29) .skip (.region [0,1,2,6,7,29] [o0 31 (.bin .eql (.t 7) (.c (.int .u8 5))),
 o0 29 (.mv (.t 31))]))) (.cond (.t 29) (.seq (.seq (.region [0,1,2,6,33] [o0 32 (.mv (.t 2)),
 o0 33 (.bin .eql (.t 32) (.c (.int .i64 0)))]) (.cond (.t 33) (.seq (.region [6] [o0 34 (.call .view 562 [(.c (.string ⟨#[122,101,114,111]⟩))]),
 o2 (.store 4 (.t 6) (.t 34))]) .ret) .skip)) (.seq (.seq (.region [0,1,2,6,36] [o0 35 (.mv (.t 2)),
 o0 36 (.bin .eql (.t 35) (.c (.int .i64 (-1))))]) (.cond (.t 36) (.seq (.seq (.region [1,6,38] [o0 37 (.mv (.t 0)),
 o0 38 (.bin .eql (.t 37) (.c (.int .u8 5)))]) (.cond (.t 38) (.seq (.region [6] [o0 39 (.call .view 558 [(.c (.int .i64 0))]),
 o0 40 (.build [(.int .u8 0),(.int .i64 0),(.string .empty),(.int .i64 0)] [(0,2,(.t 39))]),
 o2 (.store 4 (.t 6) (.t 40))]) .ret) .skip)) (.seq (.region [6] [o0 41 (.mv (.t 1)),
 o0 42 (.un .neg (.t 41)),
 o0 43 (.call .view 558 [.t 42]),
 o0 44 (.build [(.int .u8 0),(.int .i64 0),(.string .empty),(.int .i64 0)] [(0,2,(.t 43))]),
 o2 (.store 4 (.t 6) (.t 44))]) .ret)) .skip)) (.seq (.seq (.region [1,2,6,46] [o0 45 (.mv (.t 0)),
 o0 46 (.bin .eql (.t 45) (.c (.int .u8 5)))]) (.cond (.t 46) (.seq (.region [6] [o0 47 (.mv (.t 1)),
 o0 48 (.mv (.t 2)),
 o0 49 (.bin .rem (.t 47) (.t 48)),
 o0 50 (.call .view 558 [.t 49]),
 o0 51 (.build [(.int .u8 0),(.int .i64 0),(.string .empty),(.int .i64 0)] [(0,2,(.t 50))]),
 o2 (.store 4 (.t 6) (.t 51))]) .ret) .skip)) (.seq (.region [6] [o0 52 (.mv (.t 1)),
 o0 53 (.mv (.t 2)),
 o0 54 (.bin .quo (.t 52) (.t 53)),
 o0 55 (.call .view 558 [.t 54]),
 o0 56 (.build [(.int .u8 0),(.int .i64 0),(.string .empty),(.int .i64 0)] [(0,2,(.t 55))]),
 o2 (.store 4 (.t 6) (.t 56))]) .ret)))) (.seq (.region [1,2,6,7,57] [o0 58 (.bin .eql (.t 7) (.c (.int .u8 6))),
 o0 57 (.mv (.t 58))]) (.cond (.t 57) (.seq (.region [6] [o0 59 (.mv (.t 1)),
 o0 60 (.mv (.t 2)),
 o0 61 (.bin .lss (.t 59) (.t 60)),
 o0 62 (.call .view 557 [.t 61]),
 o0 63 (.build [(.int .u8 0),(.int .i64 0),(.string .empty),(.int .i64 0)] [(0,2,(.t 62))]),
 o2 (.store 4 (.t 6) (.t 63))]) .ret) (.seq (.region [1,2,6,64] [o0 65 (.bin .eql (.t 7) (.c (.int .u8 7))),
 o0 64 (.mv (.t 65))]) (.cond (.t 64) (.seq (.region [6] [o0 66 (.mv (.t 1)),
 o0 67 (.mv (.t 2)),
 o0 68 (.bin .leq (.t 66) (.t 67)),
 o0 69 (.call .view 557 [.t 68]),
 o0 70 (.build [(.int .u8 0),(.int .i64 0),(.string .empty),(.int .i64 0)] [(0,2,(.t 69))]),
 o2 (.store 4 (.t 6) (.t 70))]) .ret) .skip)))))))))))))) (.seq (.region [6] [o0 71 (.call .view 562 [(.c (.string ⟨#[107,105,110,100]⟩))]),
 o2 (.store 4 (.t 6) (.t 71))]) .ret)))⟩
def x166:XFun:=
 ⟨[.cell 4 (some 5)],(.seq (.region [0,3,4] [o0 3 (.box 2 (.t 1)),
 o0 4 (.alloc [(.int .u8 0),(.string .empty),(.slice none 0 0),(.int .i64 0),(.int .i64 0)])]) (.seq (.region [4] [o0 5 (.mv (.t 0)),
 o0 6 (.nilCheck (.t 5)),
 o0 7 (.fieldA 0 (.t 6)),
 o0 8 (.load none (.t 7)),
 o0 9 (.fieldA 1 (.t 3)),
 o0 10 (.load none (.t 9)),
 o0 11 (.bin .sub (.t 10) (.c (.int .i64 1))),
 o0 12 (.idxA 5 (.t 8) (.t 11)),
 o0 13 (.load (some 5) (.t 12)),
 o2 (.store 5 (.t 4) (.t 13))]) .ret))⟩
def x492:XFun:=
 ⟨[.tmp 2],(.seq (.region [1] [o0 1 (.box 4 (.t 0)),
 o0 2 (.mv (.c (.int .i64 0)))]) (.seq (.seq (.region [1,5] [o0 3 (.fieldA 2 (.t 1)),
 o0 4 (.load none (.t 3)),
 o0 5 (.bin .neq (.t 4) (.c (.string .empty)))]) (.cond (.t 5) (.seq (.region [2] [o0 2 (.mv (.c (.int .i64 0)))]) .ret) .skip)) (.seq (.region [2] [o0 6 (.fieldA 3 (.t 1)),
 o0 7 (.load none (.t 6)),
 o0 2 (.mv (.t 7))]) .ret)))⟩
def x558:XFun:=
 ⟨[.cell 2 (some 2)],(.seq (.region [0,2] [o0 2 (.alloc [(.int .u8 0),(.int .i64 0)])]) (.seq (.region [2] [o0 3 (.mv (.t 0)),
 o0 4 (.build [(.int .u8 0),(.int .i64 0)] [(0,1,(.c (.int .u8 2))),(1,1,(.t 3))]),
 o2 (.store 2 (.t 2) (.t 4))]) .ret))⟩
def x165:XFun:=
 ⟨[.cell 6 (some 4)],(.seq (.region [0,2,4,6] [o0 4 (.box 5 (.t 1)),
 o0 6 (.alloc [(.int .u8 0),(.int .i64 0),(.string .empty),(.int .i64 0)])]) (.seq (.region [0,2,4,6,7] [o0 8 (.load (some 5) (.t 4)),
 o0 9 (.call .view 559 [.t 8]),
 o0 7 (.mv (.t 9))]) (.seq (.seq (.region [0,4,6,7,10] [o0 10 (.mv (.t 2))]) (.cond (.t 10) (.seq (.region [6] [o0 11 (.mv (.t 7)),
 o0 12 (.build [(.int .u8 0),(.int .i64 0),(.string .empty),(.int .i64 0)] [(3,1,(.t 11))]),
 o2 (.store 4 (.t 6) (.t 12))]) .ret) .skip)) (.seq (.region [0,4,6,7] [o0 13 (.mv (.t 0)),
 o0 14 (.mv (.t 0)),
 o0 15 (.nilCheck (.t 14)),
 o0 16 (.fieldA 0 (.t 15)),
 o0 17 (.load none (.t 16)),
 o0 18 (.load (some 5) (.t 4)),
 o0 19 (.buildSlice 5 [(.int .u8 0),(.string .empty),(.slice none 0 0),(.int .i64 0),(.int .i64 0)] 1 [(0,5,(.t 18))]),
 o0 20 (.append 5 64 (.t 17) (.t 19)),
 o0 21 (.nilCheck (.t 13)),
 o0 22 (.fieldA 0 (.t 21)),
 o2 (.store 1 (.t 22) (.t 20))]) (.seq (.region [6] [o0 23 (.fieldA 0 (.t 4)),
 o0 24 (.load none (.t 23)),
 o0 25 (.mv (.t 0)),
 o0 26 (.nilCheck (.t 25)),
 o0 27 (.fieldA 0 (.t 26)),
 o0 28 (.load none (.t 27)),
 o0 29 (.len (.t 28)),
 o0 30 (.build [(.int .u8 0),(.int .i64 0)] [(0,1,(.t 24)),(1,1,(.t 29))]),
 o0 31 (.mv (.t 7)),
 o0 32 (.build [(.int .u8 0),(.int .i64 0),(.string .empty),(.int .i64 0)] [(0,2,(.t 30)),(3,1,(.t 31))]),
 o2 (.store 4 (.t 6) (.t 32))]) .ret)))))⟩
@[simp] def sameC11z1f(n0:Nat):XFun:=
 ⟨[],(.seq (.region [0,1] [o0 4 (.mv (.t 0)),o0 5 (.nilCheck (.t 4)),o0 6 (.fieldA 0 (.t 5)),o0 7 (.load none (.t 6)),o0 8 (.bin .add (.t 7) (.c (.int .i64 1))),o0 9 (.nilCheck (.t 4)),o0 10 (.fieldA 0 (.t 9)),o2 (.store 1 (.t 10) (.t 8))]) (.region [] [o0 11 (.mv (.t 0)),o0 12 (.mv (.t 0)),o0 13 (.nilCheck (.t 12)),o0 14 (.fieldA n0 (.t 13)),o0 15 (.load none (.t 14)),o0 16 (.mv (.t 1)),o0 17 (.mv (.t 0)),o0 18 (.nilCheck (.t 17)),o0 19 (.fieldA 0 (.t 18)),o0 20 (.load none (.t 19)),o0 21 (.build [(.slice none 0 0),(.slice none 0 0),(.int .i64 0)] [(0,1,(.t 16)),(2,1,(.t 20))]),o0 22 (.buildSlice 3 [(.slice none 0 0),(.slice none 0 0),(.int .i64 0)] 1 [(0,3,(.t 21))]),o0 23 (.append 3 56 (.t 15) (.t 22)),o0 24 (.nilCheck (.t 11)),o0 25 (.fieldA n0 (.t 24)),o2 (.store 1 (.t 25) (.t 23))]))⟩
@[simp] def sameC11z2c(n0:Nat)(n1:Nat):XCode:=
 (.seq (.seq (.region [0,2,3,4,25] [o0 21 (.mv (.t 4)),o0 22 (.fieldA 0 (.t 3)),o0 23 (.load none (.t 22)),o0 24 (.len (.t 23)),o0 25 (.bin .lss (.t 21) (.t 24))]) (.cond (.t 25) .skip (.exit 2))) (.seq (.block 3 (.region [0,2,3,4] [o0 28 (.fieldA 0 (.t 3)),o0 29 (.load none (.t 28)),o0 30 (.mv (.t 4)),o0 31 (.fieldA 2 (.t 3)),o0 32 (.load none (.t 31)),o0 33 (.call .view n0 [.t 32]),o0 34 (.idxA n1 (.t 29) (.t 30)),o2 (.store n1 (.t 34) (.t 33))])) (.region [0,2,3,4] [o0 26 (.mv (.t 4)),o0 27 (.bin .add (.t 26) (.c (.int .i64 1))),o0 4 (.mv (.t 27))])))
@[simp] def sameC11z3c(n0:Nat)(c1:XCode):XCode:=
 (.seq (.seq (.region [0,2,11] [o0 5 (.mv (.t 2)),o0 6 (.mv (.t 0)),o0 7 (.nilCheck (.t 6)),o0 8 (.fieldA n0 (.t 7)),o0 9 (.load none (.t 8)),o0 10 (.len (.t 9)),o0 11 (.bin .lss (.t 5) (.t 10))]) (.cond (.t 11) .skip (.exit 0))) (.seq (.block 1 (.seq (.region [0,2,3] [o0 14 (.mv (.t 0)),o0 15 (.nilCheck (.t 14)),o0 16 (.fieldA n0 (.t 15)),o0 17 (.load none (.t 16)),o0 18 (.mv (.t 2)),o0 19 (.idxA 3 (.t 17) (.t 18)),o0 20 (.load (some 3) (.t 19)),o0 3 (.alloc [(.slice none 0 0),(.slice none 0 0),(.int .i64 0)]),o2 (.store 3 (.t 3) (.t 20))]) (.seq (.region [0,2,3,4] [o0 4 (.mv (.c (.int .i64 0)))]) (.block 2 (.loop [0,2,3,4] c1))))) (.region [0,2] [o0 12 (.mv (.t 2)),o0 13 (.bin .add (.t 12) (.c (.int .i64 1))),o0 2 (.mv (.t 13))])))
@[simp] def sameC11z4f(c0:XCode):XFun:=
 ⟨[],(.seq (.region [0,2] [o0 2 (.mv (.c (.int .i64 0)))]) (.block 0 (.loop [0,2] c0)))⟩
@[simp] def sameC11z5c(n0:Nat):XCode:=
 (.seq (.seq (.region [0,2,3,4,5,25] [o0 24 (.mv (.t 5)),o0 25 (.bin .lss (.t 24) (.c (.int .i64 40)))]) (.cond (.t 25) .skip (.exit 2))) (.seq (.block 3 (.region [0,2,3,4,5] [o0 28 (.mv (.t 4)),o0 29 (.fieldA 2 (.t 3)),o0 30 (.load none (.t 29)),o0 31 (.call .view n0 [.t 30]),o0 32 (.buildSlice 1 [(.int .i64 0)] 1 [(0,1,(.t 31))]),o0 33 (.append 1 8 (.t 28) (.t 32)),o0 4 (.mv (.t 33))])) (.region [0,2,3,4,5] [o0 26 (.mv (.t 5)),o0 27 (.bin .add (.t 26) (.c (.int .i64 1))),o0 5 (.mv (.t 27))])))
@[simp] def sameC11z6c(n0:Nat)(c1:XCode):XCode:=
 (.seq (.seq (.region [0,2,12] [o0 6 (.mv (.t 2)),o0 7 (.mv (.t 0)),o0 8 (.nilCheck (.t 7)),o0 9 (.fieldA n0 (.t 8)),o0 10 (.load none (.t 9)),o0 11 (.len (.t 10)),o0 12 (.bin .lss (.t 6) (.t 11))]) (.cond (.t 12) .skip (.exit 0))) (.seq (.block 1 (.seq (.region [0,2,3] [o0 15 (.mv (.t 0)),o0 16 (.nilCheck (.t 15)),o0 17 (.fieldA n0 (.t 16)),o0 18 (.load none (.t 17)),o0 19 (.mv (.t 2)),o0 20 (.idxA 3 (.t 18) (.t 19)),o0 21 (.load (some 3) (.t 20)),o0 3 (.alloc [(.slice none 0 0),(.slice none 0 0),(.int .i64 0)]),o2 (.store 3 (.t 3) (.t 21))]) (.seq (.region [0,2,3,4] [o0 22 (.fieldA 0 (.t 3)),o0 23 (.load none (.t 22)),o0 4 (.mv (.t 23))]) (.seq (.seq (.region [0,2,3,4,5] [o0 5 (.mv (.c (.int .i64 0)))]) (.block 2 (.loop [0,2,3,4,5] c1))) (.region [0,2] [o0 34 (.mv (.t 0)),o0 35 (.nilCheck (.t 34)),o0 36 (.fieldA n0 (.t 35)),o0 37 (.load none (.t 36)),o0 38 (.mv (.t 2)),o0 39 (.mv (.t 4)),o0 40 (.idxA 3 (.t 37) (.t 38)),o0 41 (.fieldA 1 (.t 40)),o2 (.store 1 (.t 41) (.t 39))]))))) (.region [0,2] [o0 13 (.mv (.t 2)),o0 14 (.bin .add (.t 13) (.c (.int .i64 1))),o0 2 (.mv (.t 14))])))
@[simp] def sameC11z7c(n0:Nat):XCode:=
 (.seq (.seq (.region [0,2,3,4,5,25] [o0 24 (.mv (.t 5)),o0 25 (.bin .lss (.t 24) (.c (.int .i64 40)))]) (.cond (.t 25) .skip (.exit 2))) (.seq (.block 3 (.region [0,2,3,4,5] [o0 28 (.mv (.t 4)),o0 29 (.fieldA 2 (.t 3)),o0 30 (.load none (.t 29)),o0 31 (.call .view n0 [.t 30]),o0 32 (.buildSlice 2 [(.int .u8 0),(.int .i64 0)] 1 [(0,2,(.t 31))]),o0 33 (.append 2 16 (.t 28) (.t 32)),o0 4 (.mv (.t 33))])) (.region [0,2,3,4,5] [o0 26 (.mv (.t 5)),o0 27 (.bin .add (.t 26) (.c (.int .i64 1))),o0 5 (.mv (.t 27))])))
@[simp] def sameC11z8c(n0:Nat):XCode:=
 (.seq (.seq (.region [0,2,3,4,5,25] [o0 24 (.mv (.t 5)),o0 25 (.bin .lss (.t 24) (.c (.int .i64 40)))]) (.cond (.t 25) .skip (.exit 2))) (.seq (.block 3 (.region [0,2,3,4,5] [o0 28 (.mv (.t 4)),o0 29 (.fieldA 2 (.t 3)),o0 30 (.load none (.t 29)),o0 31 (.call .view n0 [.t 30]),o0 32 (.buildSlice 2 [(.int .i64 0),(.slice none 0 0)] 1 [(0,2,(.t 31))]),o0 33 (.append 2 32 (.t 28) (.t 32)),o0 4 (.mv (.t 33))])) (.region [0,2,3,4,5] [o0 26 (.mv (.t 5)),o0 27 (.bin .add (.t 26) (.c (.int .i64 1))),o0 5 (.mv (.t 27))])))
@[simp] def sameC11z9c(n0:Nat):XCode:=
 (.seq (.seq (.region [0,3,4,5,34] [o0 30 (.mv (.t 5)),o0 31 (.fieldA 1 (.t 4)),o0 32 (.load none (.t 31)),o0 33 (.len (.t 32)),o0 34 (.bin .lss (.t 30) (.t 33))]) (.cond (.t 34) .skip (.exit 2))) (.seq (.block 3 (.seq (.region [0,3,4,5,63] [o0 37 (.fieldA 1 (.t 4)),o0 38 (.load none (.t 37)),o0 39 (.mv (.t 5)),o0 40 (.idxA 1 (.t 38) (.t 39)),o0 41 (.load none (.t 40)),o0 42 (.fieldA 2 (.t 4)),o0 43 (.load none (.t 42)),o0 44 (.call .view n0 [(.t 41),(.t 43)]),o0 45 (.un .not (.t 44)),o0 46 (.mv (.t 45)),o1 47 46 false (.mv (.t 5)),o1 48 46 false (.fieldA 0 (.t 4)),o1 49 46 false (.load none (.t 48)),o1 50 46 false (.len (.t 49)),o1 51 46 false (.bin .lss (.t 47) (.t 50)),o1 52 46 false (.mv (.t 51)),o1 53 52 true (.fieldA 0 (.t 4)),o1 54 52 true (.load none (.t 53)),o1 55 52 true (.mv (.t 5)),o1 56 52 true (.idxA 1 (.t 54) (.t 55)),o1 57 52 true (.load none (.t 56)),o1 58 52 true (.fieldA 2 (.t 4)),o1 59 52 true (.load none (.t 58)),o1 60 52 true (.call .view n0 [(.t 57),(.t 59)]),o1 61 52 true (.un .not (.t 60)),o1 62 46 false (.pick (.t 52) (.t 61) (.c (.bool false))),o0 63 (.pick (.t 46) (.c (.bool true)) (.t 62))]) (.cond (.t 63) (.seq (.region [2] [o0 2 (.mv (.c (.bool false)))]) .ret) .skip))) (.region [0,3,4,5] [o0 35 (.mv (.t 5)),o0 36 (.bin .add (.t 35) (.c (.int .i64 1))),o0 5 (.mv (.t 36))])))
@[simp] def sameC11z10c(n0:Nat)(c1:XCode):XCode:=
 (.seq (.seq (.region [0,3,12] [o0 6 (.mv (.t 3)),o0 7 (.mv (.t 0)),o0 8 (.nilCheck (.t 7)),o0 9 (.fieldA n0 (.t 8)),o0 10 (.load none (.t 9)),o0 11 (.len (.t 10)),o0 12 (.bin .lss (.t 6) (.t 11))]) (.cond (.t 12) .skip (.exit 0))) (.seq (.block 1 (.seq (.region [0,3,4] [o0 15 (.mv (.t 0)),o0 16 (.nilCheck (.t 15)),o0 17 (.fieldA n0 (.t 16)),o0 18 (.load none (.t 17)),o0 19 (.mv (.t 3)),o0 20 (.idxA 3 (.t 18) (.t 19)),o0 21 (.load (some 3) (.t 20)),o0 4 (.alloc [(.slice none 0 0),(.slice none 0 0),(.int .i64 0)]),o2 (.store 3 (.t 4) (.t 21))]) (.seq (.seq (.region [0,3,4,29] [o0 22 (.fieldA 1 (.t 4)),o0 23 (.load none (.t 22)),o0 24 (.len (.t 23)),o0 25 (.fieldA 0 (.t 4)),o0 26 (.load none (.t 25)),o0 27 (.len (.t 26)),o0 28 (.bin .add (.t 27) (.c (.int .i64 40))),o0 29 (.bin .neq (.t 24) (.t 28))]) (.cond (.t 29) (.seq (.region [2] [o0 2 (.mv (.c (.bool false)))]) .ret) .skip)) (.seq (.region [0,3,4,5] [o0 5 (.mv (.c (.int .i64 0)))]) (.block 2 (.loop [0,3,4,5] c1)))))) (.region [0,3] [o0 13 (.mv (.t 3)),o0 14 (.bin .add (.t 13) (.c (.int .i64 1))),o0 3 (.mv (.t 14))])))
@[simp] def sameC11z11f(c0:XCode):XFun:=
 ⟨[.tmp 2],(.seq (.region [0] [o0 2 (.mv (.c (.bool false)))]) (.seq (.seq (.region [0,3] [o0 3 (.mv (.c (.int .i64 0)))]) (.block 0 (.loop [0,3] c0))) (.seq (.region [2] [o0 2 (.mv (.c (.bool true)))]) .ret)))⟩
@[simp] def sameC11z12c(n0:Nat)(n1:Nat):XCode:=
 (.seq (.seq (.region [0,3,4,5,34] [o0 30 (.mv (.t 5)),o0 31 (.fieldA 1 (.t 4)),o0 32 (.load none (.t 31)),o0 33 (.len (.t 32)),o0 34 (.bin .lss (.t 30) (.t 33))]) (.cond (.t 34) .skip (.exit 2))) (.seq (.block 3 (.seq (.region [0,3,4,5,63] [o0 37 (.fieldA 1 (.t 4)),o0 38 (.load none (.t 37)),o0 39 (.mv (.t 5)),o0 40 (.idxA n0 (.t 38) (.t 39)),o0 41 (.load (some n0) (.t 40)),o0 42 (.fieldA 2 (.t 4)),o0 43 (.load none (.t 42)),o0 44 (.call .view n1 [(.t 41),(.t 43)]),o0 45 (.un .not (.t 44)),o0 46 (.mv (.t 45)),o1 47 46 false (.mv (.t 5)),o1 48 46 false (.fieldA 0 (.t 4)),o1 49 46 false (.load none (.t 48)),o1 50 46 false (.len (.t 49)),o1 51 46 false (.bin .lss (.t 47) (.t 50)),o1 52 46 false (.mv (.t 51)),o1 53 52 true (.fieldA 0 (.t 4)),o1 54 52 true (.load none (.t 53)),o1 55 52 true (.mv (.t 5)),o1 56 52 true (.idxA n0 (.t 54) (.t 55)),o1 57 52 true (.load (some n0) (.t 56)),o1 58 52 true (.fieldA 2 (.t 4)),o1 59 52 true (.load none (.t 58)),o1 60 52 true (.call .view n1 [(.t 57),(.t 59)]),o1 61 52 true (.un .not (.t 60)),o1 62 46 false (.pick (.t 52) (.t 61) (.c (.bool false))),o0 63 (.pick (.t 46) (.c (.bool true)) (.t 62))]) (.cond (.t 63) (.seq (.region [2] [o0 2 (.mv (.c (.bool false)))]) .ret) .skip))) (.region [0,3,4,5] [o0 35 (.mv (.t 5)),o0 36 (.bin .add (.t 35) (.c (.int .i64 1))),o0 5 (.mv (.t 36))])))
def x559:XFun:=
 ⟨[.tmp 2],(.seq (.region [1] [o0 1 (.box 5 (.t 0)),
 o0 2 (.mv (.c (.int .i64 0)))]) (.seq (.seq (.region [1,4] [o0 3 (.fieldA 0 (.t 1)),
 o0 4 (.load none (.t 3))]) (.block 0 (.seq (.region [1,4,5] [o0 6 (.bin .eql (.t 4) (.c (.int .u8 3))),
 o0 5 (.mv (.t 6))]) (.cond (.t 5) (.seq (.region [2] [o0 7 (.fieldA 1 (.t 1)),
 o0 8 (.load none (.t 7)),
 o0 9 (.lenS (.t 8)),
 o0 10 (.bin .add (.t 9) (.c (.int .i64 7))),
 o0 11 (.bin .quo (.t 10) (.c (.int .i64 8))),
 o0 12 (.bin .add (.c (.int .i64 2)) (.t 11)),
 o0 2 (.mv (.t 12))]) .ret) (.seq (.seq (.region [1,4,13] [o0 14 (.bin .eql (.t 4) (.c (.int .u8 4))),
 o0 13 (.mv (.t 14))]) (.cond (.t 13) .skip (.region [1,4,13] [o0 15 (.bin .eql (.t 4) (.c (.int .u8 5))),
 o0 13 (.mv (.t 15))]))) (.cond (.t 13) (.seq (.seq (.region [1,18] [o0 16 (.fieldA 3 (.t 1)),
 o0 17 (.load none (.t 16)),
 o0 18 (.bin .eql (.t 17) (.c (.int .i64 0)))]) (.cond (.t 18) (.seq (.region [2] [o0 2 (.mv (.c (.int .i64 3)))]) .ret) .skip)) (.seq (.region [2] [o0 19 (.fieldA 3 (.t 1)),
 o0 20 (.load none (.t 19)),
 o0 21 (.bin .mul (.c (.int .i64 2)) (.t 20)),
 o0 22 (.bin .add (.c (.int .i64 4)) (.t 21)),
 o0 2 (.mv (.t 22))]) .ret)) (.seq (.region [1,23] [o0 24 (.bin .eql (.t 4) (.c (.int .u8 6))),
 o0 23 (.mv (.t 24))]) (.cond (.t 23) (.seq (.region [2] [o0 25 (.fieldA 2 (.t 1)),
 o0 26 (.load none (.t 25)),
 o0 27 (.len (.t 26)),
 o0 28 (.bin .mul (.c (.int .i64 2)) (.t 27)),
 o0 29 (.bin .add (.c (.int .i64 2)) (.t 28)),
 o0 2 (.mv (.t 29))]) .ret) .skip)))))))) (.seq (.region [2] [o0 2 (.mv (.c (.int .i64 3)))]) .ret)))⟩
def x420:XFun:=
 ⟨[.cell 2 (some 2)],(.seq (.region [0,2] [o0 2 (.alloc [(.int .u8 0),(.int .i64 0)])]) (.seq (.region [2] [o0 3 (.mv (.t 0)),
 o0 4 (.bin .sub (.c (.int .i64 (-1000))) (.t 3)),
 o0 5 (.build [(.int .u8 0),(.int .i64 0)] [(1,1,(.t 4))]),
 o2 (.store 2 (.t 2) (.t 5))]) .ret))⟩
def x414:XFun:=
 ⟨[.cell 2 (some 5)],(.seq (.region [0,2] [o0 2 (.alloc [(.int .u8 0),(.string .empty),(.slice none 0 0),(.int .i64 0),(.int .i64 0)])]) (.seq (.region [2] [o0 3 (.mv (.t 0)),
 o0 4 (.call .view 422 [.t 3]),
 o0 5 (.build [(.int .u8 0),(.string .empty),(.slice none 0 0),(.int .i64 0),(.int .i64 0)] [(1,1,(.t 4))]),
 o2 (.store 5 (.t 2) (.t 5))]) .ret))⟩
@[simp] def sameC11z13f(n0:Nat)(n1:Nat):XFun:=
 ⟨[.tmp 4],(.seq (.region [1,2] [o0 2 (.box n0 (.t 0)),o0 4 (.mv (.c (.bool false)))]) (.seq (.region [4] [o0 5 (.fieldA n1 (.t 2)),o0 6 (.load none (.t 5)),o0 7 (.mv (.t 1)),o0 8 (.bin .sub (.c (.int .i64 (-1000))) (.t 7)),o0 9 (.bin .eql (.t 6) (.t 8)),o0 4 (.mv (.t 9))]) .ret))⟩
def x400:XFun:=
 sameC11z13f 2 1
@[simp] def sameC11z14f(n0:Nat)(n1:Nat):XFun:=
 ⟨[.tmp 4],(.seq (.region [1,2] [o0 2 (.box n0 (.t 0)),o0 4 (.mv (.c (.bool false)))]) (.seq (.region [4] [o0 5 (.fieldA n1 (.t 2)),o0 6 (.load none (.t 5)),o0 7 (.mv (.t 1)),o0 8 (.call .view 422 [.t 7]),o0 9 (.bin .eql (.t 6) (.t 8)),o0 4 (.mv (.t 9))]) .ret))⟩
def x394:XFun:=
 sameC11z14f 5 1
def x422:XFun:=
 ⟨[.tmp 2],(.seq (.region [0] [o0 2 (.mv (.c (.string .empty)))]) (.seq (.region [2] [o0 3 (.mv (.t 0)),
 o0 4 (.call .view 786 [.t 3]),
 o0 5 (.bin .add (.c (.string ⟨#[35]⟩)) (.t 4)),
 o0 2 (.mv (.t 5))]) .ret))⟩
end Go.EX


set_option linter.unusedVariables false
set_option linter.unusedSimpArgs false
namespace Go.EX
def leadsOf(S:List Obj)(v:Val):Option Nat:=
 if v.k<3 then none else if 7<v.k then none else if v.n<1 then none else if (S.length:Int)<v.n then none else
 match S[(v.n-1).toNat]? with
 |some o=>if o.k=v.k then some (v.n-1).toNat else none
 |none=>none
theorem zi0{S:List Obj}{v:Val}{k:Nat}(h:leadsOf S v=some k):k<S.length∧(k:Int)=v.n-1∧3≤v.k∧v.k≤7∧∃o,S[k]?=some o∧o.k=v.k:=by
 unfold leadsOf at h
 split at h
 ·cases h
 split at h
 ·cases h
 split at h
 ·cases h
 split at h
 ·cases h
 split at h
 ·rename_i o ho
  split at h
  ·rename_i hk
   cases h
   have:=(List.getElem?_eq_some_iff.1 ho).1
   exact⟨this,by omega,by omega,by omega,o,ho,hk⟩
  ·cases h
 ·cases h
inductive Reach (S:List Obj) (roots:List Val):Nat→Prop
 |root {v:Val} {j:Nat} (hv:v∈roots) (h:leadsOf S v=some j):Reach S roots j
 |step {k j:Nat} {o:Obj} {v:Val} (hk:Reach S roots k) (ho:S[k]?=some o) (hv:v∈o.l.xs) (h:leadsOf S v=some j):Reach S roots j
theorem Reach.lt{S:List Obj}{roots:List Val}{k:Nat}(h:Reach S roots k):k<S.length:=by
 cases h with
 |root _ h=>exact(zi0 h).1
 |step _ _ _ h=>exact(zi0 h).1
def unm:List Bool→List Obj→Nat
 |false::F,o::S=>o.l.xs.length+1+unm F S
 |true::F,_::S=>unm F S
 |_,_=>0
theorem zvp:∀(F:List Bool) (S:List Obj) (k:Nat) (o:Obj),F[k]?=some false→S[k]?=some o→unm (F.set k true) S+(o.l.xs.length+1)=unm F S
 |[],S,k,o,h,_=>by simp at h
 |b::F,[],k,o,_,h=>by simp at h
 |b::F,p::S,0,o,h,h'=>by simp at h h';subst h;subst h';simp[unm];omega
 |b::F,p::S,k+1,o,h,h'=>by
  simp only[List.set_cons_succ]
  have:=zvp F S k o (by simpa using h) (by simpa using h')
  cases b<;>simp only[unm]<;>omega
structure Marks (S:List Obj) (roots:List Val) (F:List Bool) (T:List Val):Prop where
 len:F.length=S.length
 mark:∀k,F[k]?=some true→Reach S roots k
 todo:∀v∈T,∀j,leadsOf S v=some j→Reach S roots j
 roots:∀v∈roots,∀j,leadsOf S v=some j→F[j]?=some true∨v∈T
 step:∀(k:Nat) (o:Obj),F[k]?=some true→S[k]?=some o→∀v∈o.l.xs,∀j:Nat,leadsOf S v=some j→F[j]?=some true∨v∈T
theorem Marks.start(S:List Obj)(roots:List Val):Marks S roots (List.replicate S.length false) roots:=
 ⟨by simp,fun k h=>by simp[List.getElem?_replicate]at h,fun v hv j h=>.root hv h,fun v hv j h=>.inr hv,fun k o h=>by simp[List.getElem?_replicate]at h⟩
theorem Marks.drop{S:List Obj}{roots:List Val}{F:List Bool}{T:List Val}{v:Val}(h:Marks S roots F (T++[v]))(hv:∀j,leadsOf S v=some j→F[j]?=some true):Marks S roots F T:=by
 have key:∀u j,leadsOf S u=some j→(F[j]?=some true∨u∈T++[v])→F[j]?=some true∨u∈T:=by
  intro u j hu h1
  rcases h1 with h1|h1
  ·exact .inl h1
  ·rw[List.mem_append,List.mem_singleton]at h1
   rcases h1 with h1|rfl
   ·exact .inr h1
   ·exact .inl (hv j hu)
 exact⟨h.len,h.mark,fun u hu j hj=>h.todo u (List.mem_append_left _ hu) j hj,fun u hu j hj=>key u j hj (h.roots u hu j hj),fun k o hk ho u hu j hj=>key u j hj (h.step k o hk ho u hu j hj)⟩
theorem Marks.take{S:List Obj}{roots:List Val}{F:List Bool}{T:List Val}{v:Val}{k:Nat}{o:Obj}(h:Marks S roots F (T++[v]))(hv:leadsOf S v=some k)(hF:F[k]?=some false)(ho:S[k]?=some o):Marks S roots (F.set k true) (T++o.l.xs):=by
 have hkl:k<F.length:=(List.getElem?_eq_some_iff.1 hF).1
 have hk:=h.todo v (by simp) k hv
 have hset:∀j,(F.set k true)[j]?=some true↔j=k∨F[j]?=some true:=by
  intro j
  rw[List.getElem?_set]
  by_cases e:k=j
  ·subst e;simp[hkl]
  ·rw[if_neg e];simp[Ne.symm e]
 have key:∀u j,leadsOf S u=some j→(F[j]?=some true∨u∈T++[v])→(F.set k true)[j]?=some true∨u∈T++o.l.xs:=by
  intro u j hu h1
  rcases h1 with h1|h1
  ·exact .inl ((hset j).2 (.inr h1))
  ·rw[List.mem_append,List.mem_singleton]at h1
   rcases h1 with h1|rfl
   ·exact .inr (List.mem_append_left _ h1)
   ·rw[hv]at hu;cases hu;exact .inl ((hset k).2 (.inl rfl))
 refine⟨by simp[h.len],fun j hj=>?_,fun u hu j hj=>?_,fun u hu j hj=>key u j hj (h.roots u hu j hj),fun q p hq hp u hu j hj=>?_⟩
 ·rcases(hset j).1 hj with rfl|hj
  ·exact hk
  ·exact h.mark j hj
 ·rw[List.mem_append]at hu
  rcases hu with hu|hu
  ·exact h.todo u (List.mem_append_left _ hu) j hj
  ·exact .step hk ho hu hj
 ·rcases(hset q).1 hq with rfl|hq
  ·rw[ho]at hp;cases hp
   exact .inr (List.mem_append_right _ hu)
  ·exact key u j hj (h.step q p hq hp u hu j hj)
theorem Marks.done{S:List Obj}{roots:List Val}{F:List Bool}(h:Marks S roots F [])(k:Nat):F[k]?=some true↔Reach S roots k:=by
 refine⟨h.mark k,fun hk=>?_⟩
 induction hk with
 |root hv hl=>rcases h.roots _ hv _ hl with h|h;exact h;cases h
 |step _ ho hv hl ih=>rcases h.step _ _ ih ho _ hv _ hl with h|h;exact h;cases h
def addAll(S:List Obj):List Nat→List Val→List Nat
 |out,[]=>out
 |out,v::l=>match leadsOf S v with
  |some o=>if o∈out then addAll S out l else addAll S (out++[o]) l
  |none=>addAll S out l
theorem zad(S:List Obj):∀(l:List Val) (out:List Nat),∃r,addAll S out l=out++r
 |[],out=>⟨[],by simp[addAll]⟩
 |v::l,out=>by
  rw[addAll]
  split
  ·rename_i o ho
   split
   ·exact zad S l out
   ·obtain⟨r,hr⟩:=zad S l (out++[o])
    exact⟨o::r,by rw[hr];simp⟩
  ·exact zad S l out
theorem zac(S:List Obj):∀(l:List Val) (out:List Nat),out.Nodup→(addAll S out l).Nodup
 |[],out,h=>h
 |v::l,out,h=>by
  rw[addAll]
  split
  ·rename_i o ho
   split
   ·exact zac S l out h
   ·rename_i hn
    refine zac S l _ ?_
    rw[List.nodup_append]
    exact⟨h,by simp,fun a ha b hb=>by simp at hb;subst hb;exact fun e=>hn (e▸ha)⟩
  ·exact zac S l out h
theorem zab(S:List Obj):∀(l:List Val) (out:List Nat) (j:Nat),j∈addAll S out l↔j∈out∨∃v∈l,leadsOf S v=some j
 |[],out,j=>by simp[addAll]
 |v::l,out,j=>by
  rw[addAll]
  split
  ·rename_i o ho
   split
   ·rename_i hm
    rw[zab S l out j]
    constructor
    ·rintro(h|⟨u,hu,h⟩)
     ·exact .inl h
     ·exact .inr ⟨u,List.mem_cons_of_mem _ hu,h⟩
    ·rintro(h|⟨u,hu,h⟩)
     ·exact .inl h
     ·rcases List.mem_cons.1 hu with rfl|hu
      ·rw[ho]at h;cases h;exact .inl hm
      ·exact .inr ⟨u,hu,h⟩
   ·rw[zab S l _ j,List.mem_append,List.mem_singleton]
    constructor
    ·rintro((h|rfl)|⟨u,hu,h⟩)
     ·exact .inl h
     ·exact .inr ⟨v,List.mem_cons_self ..,ho⟩
     ·exact .inr ⟨u,List.mem_cons_of_mem _ hu,h⟩
    ·rintro(h|⟨u,hu,h⟩)
     ·exact .inl (.inl h)
     ·rcases List.mem_cons.1 hu with rfl|hu
      ·rw[ho]at h;cases h;exact .inl (.inr rfl)
      ·exact .inr ⟨u,hu,h⟩
  ·rename_i hn
   rw[zab S l out j]
   constructor
   ·rintro(h|⟨u,hu,h⟩)
    ·exact .inl h
    ·exact .inr ⟨u,List.mem_cons_of_mem _ hu,h⟩
   ·rintro(h|⟨u,hu,h⟩)
    ·exact .inl h
    ·rcases List.mem_cons.1 hu with rfl|hu
     ·rw[hn]at h;cases h
     ·exact .inr ⟨u,hu,h⟩
structure Grown (S:List Obj) (roots:List Val) (out:List Nat) (i:Nat):Prop where
 nodup:out.Nodup
 reach:∀k∈out,Reach S roots k
 roots:∀v∈roots,∀j,leadsOf S v=some j→j∈out
 step:∀k∈out.take i,∀o:Obj,S[k]?=some o→∀v∈o.l.xs,∀j,leadsOf S v=some j→j∈out
theorem Grown.start(S:List Obj)(roots:List Val):Grown S roots (addAll S [] roots) 0:=
 ⟨zac S roots [] (by simp),fun k hk=>by
  rcases(zab S roots [] k).1 hk with h|⟨v,hv,h⟩
  ·cases h
  ·exact .root hv h,fun v hv j hj=>(zab S roots [] j).2 (.inr ⟨v,hv,hj⟩),fun k hk=>by simp at hk⟩
theorem Grown.next{S:List Obj}{roots:List Val}{out:List Nat}{i k:Nat}{o:Obj}(h:Grown S roots out i)(hk:out[i]?=some k)(ho:S[k]?=some o):Grown S roots (addAll S out o.l.xs) (i+1):=by
 have hi:=(List.getElem?_eq_some_iff.1 hk).1
 refine⟨zac S _ _ h.nodup,fun j hj=>?_,fun v hv j hj=>(zab S _ _ j).2 (.inl (h.roots v hv j hj)),fun q hq p hp v hv j hj=>?_⟩
 ·rcases(zab S _ _ j).1 hj with hj|⟨v,hv,hj⟩
  ·exact h.reach j hj
  ·exact .step (h.reach k (List.mem_of_getElem? hk)) ho hv hj
 ·obtain⟨r,hr⟩:=zad S o.l.xs out
  rw[hr,List.take_append_of_le_length (by omega),List.take_add_one,hk,List.mem_append]at hq
  rcases hq with hq|hq
  ·exact(zab S _ _ j).2 (.inl (h.step q hq p hp v hv j hj))
  ·simp at hq;subst hq
   rw[ho]at hp;cases hp
   exact(zab S _ _ j).2 (.inr ⟨v,hv,hj⟩)
theorem Grown.done{S:List Obj}{roots:List Val}{out:List Nat}{i:Nat}(h:Grown S roots out i)(hi:out.length≤i)(k:Nat):k∈out↔Reach S roots k:=by
 refine⟨h.reach k,fun hk=>?_⟩
 have hs:=h.step
 rw[List.take_of_length_le hi]at hs
 induction hk with
 |root hv hl=>exact h.roots _ hv _ hl
 |step _ ho hv hl ih=>exact hs _ ih _ ho _ hv _ hl
theorem Grown.short{S:List Obj}{roots:List Val}{out:List Nat}{i:Nat}(h:Grown S roots out i):out.length≤S.length:=by
 have hp:out.Perm ((List.range S.length).filter fun k=>decide (k∈out)):=(List.perm_ext_iff_of_nodup h.nodup (List.nodup_range.filter _)).2 fun k=>by
  rw[List.mem_filter,List.mem_range]
  exact⟨fun hk=>⟨(h.reach k hk).lt,by simpa using hk⟩,fun hk=>by simpa using hk.2⟩
 rw[hp.length_eq]
 exact Nat.le_trans (List.length_filter_le _ _) (by simp)
end Go.EX

