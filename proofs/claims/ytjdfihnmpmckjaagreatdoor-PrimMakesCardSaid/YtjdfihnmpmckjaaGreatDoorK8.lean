import Derived.Test.YtjdfihnmpmckjaaGreatDoorK7
import Derived.Test.YtjdfihnmpmckjaaGreatDoorK6
import Derived.Laws.Strings
namespace Go.EX
def yi2:zab:=
 ⟨[.tmp 4],(.seq (.region [0,1] [o0 4 (.mv (.c (.bool false)))]) (.seq (.region [0,1,5] [o3 13 0,
 o0 14 (.call .view 491 [.t 13]),o3 15 1,
 o0 16 (.call .view 491 [.t 15]),
 o0 17 (.call .look 627 [(.c (.slice none 0 0)),(.c (.int .u8 1)),(.t 14),(.t 16)]),
 o0 5 (.alloc [(.slice none 0 0),(.int .u8 0),(.int .i64 0),(.string .empty),(.int .i64 0)]),
 o2 (.store 5 (.t 5) (.t 17))]) (.seq (.region [0,1,5,6] [o5 18 1 5,o6 19 2 18,o3 20 1,
 o0 21 (.call .view 491 [.t 20]),
 o0 22 (.call .look 627 [(.c (.slice none 0 0)),(.c (.int .u8 2)),(.t 19),(.t 21)]),
 o0 6 (.alloc [(.slice none 0 0),(.int .u8 0),(.int .i64 0),(.string .empty),(.int .i64 0)]),
 o2 (.store 5 (.t 6) (.t 22))]) (.seq (.seq (.region [0,1,32] [o5 23 1 6,o6 24 2 23,o3 25 0,
 o0 26 (.call .view 491 [.t 25]),
 o0 27 (.eqCells true [0,0] (.t 24) (.t 26)),o3 28 27,
 o1 29 28 false (.fieldA 4 (.t 5)),
 o1 30 28 false (.load none (.t 29)),
 o1 31 28 false (.bin .neq (.t 30) (.c (.int .i64 0))),
 o0 32 (.pick (.t 28) (.c (.bool true)) (.t 31))]) (.cond (.t 32) (.seq (.region [4] [o0 4 (.mv (.c (.bool false)))]) .ret) .skip)) (.seq (.region [0,1,7] [o3 33 0,
 o0 34 (.call .view 491 [.t 33]),o3 35 1,
 o0 36 (.call .view 491 [.t 35]),
 o0 37 (.call .look 627 [(.c (.slice none 0 0)),(.c (.int .u8 6)),(.t 34),(.t 36)]),
 o0 38 (.field 1 (some 2) (.t 37)),
 o0 39 (.field 1 none (.t 38)),o3 7 39]) (.seq (.region [0,1,7,8] [o3 40 1,
 o0 41 (.call .view 491 [.t 40]),o3 42 0,
 o0 43 (.call .view 491 [.t 42]),
 o0 44 (.call .look 627 [(.c (.slice none 0 0)),(.c (.int .u8 7)),(.t 41),(.t 43)]),
 o0 45 (.field 1 (some 2) (.t 44)),
 o0 46 (.field 1 none (.t 45)),o3 8 46]) (.seq (.seq (.region [0,1,50] [o3 47 7,o3 48 8,
 o0 49 (.bin .add (.t 47) (.t 48)),
 o0 50 (.bin .neq (.t 49) (.c (.int .i64 1)))]) (.cond (.t 50) (.seq (.region [4] [o0 4 (.mv (.c (.bool false)))]) .ret) .skip)) (.seq (.region [0,1,9] [o3 51 0,
 o0 52 (.call .view 491 [.t 51]),o3 53 1,
 o0 54 (.call .view 491 [.t 53]),
 o0 55 (.call .look 627 [(.c (.slice none 0 0)),(.c (.int .u8 4)),(.t 52),(.t 54)]),
 o0 9 (.alloc [(.slice none 0 0),(.int .u8 0),(.int .i64 0),(.string .empty),(.int .i64 0)]),
 o2 (.store 5 (.t 9) (.t 55))]) (.seq (.region [0,1,9,10] [o3 56 0,
 o0 57 (.call .view 491 [.t 56]),o3 58 1,
 o0 59 (.call .view 491 [.t 58]),
 o0 60 (.call .look 627 [(.c (.slice none 0 0)),(.c (.int .u8 5)),(.t 57),(.t 59)]),
 o0 10 (.alloc [(.slice none 0 0),(.int .u8 0),(.int .i64 0),(.string .empty),(.int .i64 0)]),
 o2 (.store 5 (.t 10) (.t 60))]) (.seq (.seq (.region [0,1,9,10,62] [o3 61 1,
 o0 62 (.bin .eql (.t 61) (.c (.int .i64 0)))]) (.cond (.t 62) (.seq (.region [4] [o5 63 3 9,o4 64 63,
 o0 65 (.bin .eql (.t 64) (.c (.string ⟨#[122,101,114,111]⟩))),o3 66 65,
 o1 67 66 true (.fieldA 3 (.t 10)),
 o1 68 66 true (.load none (.t 67)),
 o1 69 66 true (.bin .eql (.t 68) (.c (.string ⟨#[122,101,114,111]⟩))),
 o0 70 (.pick (.t 66) (.t 69) (.c (.bool false))),o3 71 70,
 o1 72 71 true (.call .view 489 []),
 o0 73 (.pick (.t 71) (.t 72) (.c (.bool false))),o3 4 73]) .ret) .skip)) (.seq (.region [0,10,11] [o5 74 1 9,o6 75 2 74,o3 76 1,
 o0 77 (.call .view 491 [.t 76]),
 o0 78 (.call .look 627 [(.c (.slice none 0 0)),(.c (.int .u8 3)),(.t 75),(.t 77)]),
 o0 11 (.alloc [(.slice none 0 0),(.int .u8 0),(.int .i64 0),(.string .empty),(.int .i64 0)]),
 o2 (.store 5 (.t 11) (.t 78))]) (.seq (.region [0,12] [o5 79 1 11,o6 80 2 79,o5 81 1 10,o6 82 2 81,
 o0 83 (.call .look 627 [(.c (.slice none 0 0)),(.c (.int .u8 1)),(.t 80),(.t 82)]),
 o0 12 (.alloc [(.slice none 0 0),(.int .u8 0),(.int .i64 0),(.string .empty),(.int .i64 0)]),
 o2 (.store 5 (.t 12) (.t 83))]) (.seq (.region [4] [o5 84 1 12,o6 85 2 84,o3 86 0,
 o0 87 (.call .view 491 [.t 86]),
 o0 88 (.eqCells false [0,0] (.t 85) (.t 87)),o3 89 88,
 o1 90 89 true (.call .view 489 []),
 o0 91 (.pick (.t 89) (.t 90) (.c (.bool false))),o3 4 91]) .ret)))))))))))))⟩
def yjc:zab:=
 ⟨[.cell 8 (some 5)],(.seq (.region [0,1,6,7,8] [o0 6 (.box 2 (.t 2)),
 o0 7 (.box 2 (.t 3)),
 o0 8 (.alloc [(.slice none 0 0),(.int .u8 0),(.int .i64 0),(.string .empty),(.int .i64 0)])]) (.seq (.region [8] [o3 9 0,o3 10 1,
 o0 11 (.conv .i64 (.t 10)),o6 12 2 6,o6 13 2 7,
 o0 14 (.buildSlice 2 [(.int .u8 0),(.int .i64 0)] 2 [(0,2,(.t 12)),(2,2,(.t 13))]),
 o0 15 (.call .share 640 [(.t 9),(.c (.int .u8 14)),(.t 11),(.t 14)]),
 o2 (.store 5 (.t 8) (.t 15))]) .ret))⟩
def yi6:zab:=
 ⟨[.cell 2 (some 2)],(.seq (.region [0,2] [o0 2 (.alloc [(.int .u8 0),(.int .i64 0)])]) (.seq (.region [2] [o3 3 0,
 o0 4 (.build [(.int .u8 0),(.int .i64 0)] [(0,1,(.c (.int .u8 2))),(1,1,(.t 3))]),
 o2 (.store 2 (.t 2) (.t 4))]) .ret))⟩
def yi4:zab:=
 ⟨[.tmp 0],(.seq (.region [] [o0 0 (.mv (.c (.bool false)))]) (.seq (.region [1] [o0 5 (.call .view 491 [(.c (.int .i64 1))]),
 o0 6 (.call .view 491 [(.c (.int .i64 2))]),
 o0 7 (.buildSlice 2 [(.int .u8 0),(.int .i64 0)] 2 [(0,2,(.t 5)),(2,2,(.t 6))]),
 o0 8 (.call .look 632 [(.c (.slice none 0 0)),(.t 7)]),
 o0 1 (.alloc [(.slice none 0 0),(.int .u8 0),(.int .i64 0),(.string .empty),(.int .i64 0)]),
 o2 (.store 5 (.t 1) (.t 8))]) (.seq (.region [1,2] [o5 9 0 1,o4 10 9,o5 11 1 1,o6 12 2 11,
 o0 13 (.call .view 491 [(.c (.int .i64 2))]),
 o0 14 (.call .view 491 [(.c (.int .i64 9))]),
 o0 15 (.call .look 636 [(.t 10),(.t 12),(.t 13),(.t 14)]),
 o0 2 (.alloc [(.slice none 0 0),(.int .u8 0),(.int .i64 0),(.string .empty),(.int .i64 0)]),
 o2 (.store 5 (.t 2) (.t 15))]) (.seq (.region [1,2,3] [o5 16 0 2,o4 17 16,o5 18 1 1,o6 19 2 18,
 o0 20 (.call .view 491 [(.c (.int .i64 2))]),
 o0 21 (.call .look 630 [(.t 17),(.t 19),(.t 20)]),
 o0 3 (.alloc [(.slice none 0 0),(.int .u8 0),(.int .i64 0),(.string .empty),(.int .i64 0)]),
 o2 (.store 5 (.t 3) (.t 21))]) (.seq (.region [1,2,3,4] [o5 22 0 1,o4 23 22,o5 24 1 1,o6 25 2 24,
 o0 26 (.call .view 491 [(.c (.int .i64 2))]),
 o0 27 (.call .look 630 [(.t 23),(.t 25),(.t 26)]),
 o0 4 (.alloc [(.slice none 0 0),(.int .u8 0),(.int .i64 0),(.string .empty),(.int .i64 0)]),
 o2 (.store 5 (.t 4) (.t 27))]) (.seq (.region [0] [o5 28 4 1,o4 29 28,
 o0 30 (.bin .eql (.t 29) (.c (.int .i64 8))),o3 31 30,
 o1 32 31 true (.fieldA 4 (.t 2)),
 o1 33 31 true (.load none (.t 32)),
 o1 34 31 true (.bin .eql (.t 33) (.c (.int .i64 9))),
 o0 35 (.pick (.t 31) (.t 34) (.c (.bool false))),o3 36 35,
 o1 37 36 true (.fieldA 1 (.t 3)),
 o1 38 36 true (.load (some 2) (.t 37)),
 o1 39 36 true (.call .view 491 [(.c (.int .i64 9))]),
 o1 40 36 true (.eqCells false [0,0] (.t 38) (.t 39)),
 o0 41 (.pick (.t 36) (.t 40) (.c (.bool false))),o3 42 41,
 o1 43 42 true (.fieldA 3 (.t 4)),
 o1 44 42 true (.load none (.t 43)),
 o1 45 42 true (.bin .eql (.t 44) (.c (.string ⟨#[98,111,117,110,100,115]⟩))),
 o0 46 (.pick (.t 42) (.t 45) (.c (.bool false))),o3 47 46,
 o1 48 47 true (.call .view 491 [(.c (.int .i64 1))]),
 o1 49 47 true (.call .view 491 [(.c (.int .i64 0))]),
 o1 50 47 true (.call .look 627 [(.c (.slice none 0 0)),(.c (.int .u8 4)),(.t 48),(.t 49)]),
 o1 51 47 true (.field 3 none (.t 50)),
 o1 52 47 true (.bin .eql (.t 51) (.c (.string ⟨#[122,101,114,111]⟩))),
 o0 53 (.pick (.t 47) (.t 52) (.c (.bool false))),o3 0 53]) .ret))))))⟩
def yjg:zab:=
 ⟨[.cell 4 (some 5)],(.seq (.region [0,1,4] [o0 4 (.alloc [(.slice none 0 0),(.int .u8 0),(.int .i64 0),(.string .empty),(.int .i64 0)])]) (.seq (.region [4] [o3 5 0,o3 6 1,
 o0 7 (.call .share 640 [(.t 5),(.c (.int .u8 23)),(.c (.int .i64 0)),(.t 6)]),
 o2 (.store 5 (.t 4) (.t 7))]) .ret))⟩
def yjh:zab:=
 ⟨[.cell 8 (some 5)],(.seq (.region [0,5,6,7,8] [o0 5 (.box 2 (.t 1)),
 o0 6 (.box 2 (.t 2)),
 o0 7 (.box 2 (.t 3)),
 o0 8 (.alloc [(.slice none 0 0),(.int .u8 0),(.int .i64 0),(.string .empty),(.int .i64 0)])]) (.seq (.region [8] [o3 9 0,o6 10 2 5,o6 11 2 6,o6 12 2 7,
 o0 13 (.buildSlice 2 [(.int .u8 0),(.int .i64 0)] 3 [(0,2,(.t 10)),(2,2,(.t 11)),(4,2,(.t 12))]),
 o0 14 (.call .share 640 [(.t 9),(.c (.int .u8 25)),(.c (.int .i64 0)),(.t 13)]),
 o2 (.store 5 (.t 8) (.t 14))]) .ret))⟩
def yje:zab:=
 ⟨[.cell 4 (some 5)],(.seq (.region [0,3,4] [o0 3 (.box 2 (.t 1)),
 o0 4 (.alloc [(.slice none 0 0),(.int .u8 0),(.int .i64 0),(.string .empty),(.int .i64 0)])]) (.seq (.region [4] [o3 5 0,o6 6 2 3,
 o0 7 (.buildSlice 2 [(.int .u8 0),(.int .i64 0)] 1 [(0,2,(.t 6))]),
 o0 8 (.call .share 640 [(.t 5),(.c (.int .u8 17)),(.c (.int .i64 0)),(.t 7)]),
 o2 (.store 5 (.t 4) (.t 8))]) .ret))⟩
def yjd:zab:=
 ⟨[.cell 6 (some 5)],(.seq (.region [0,4,5,6] [o0 4 (.box 2 (.t 1)),
 o0 5 (.box 2 (.t 2)),
 o0 6 (.alloc [(.slice none 0 0),(.int .u8 0),(.int .i64 0),(.string .empty),(.int .i64 0)])]) (.seq (.region [6] [o3 7 0,o6 8 2 4,o6 9 2 5,
 o0 10 (.buildSlice 2 [(.int .u8 0),(.int .i64 0)] 2 [(0,2,(.t 8)),(2,2,(.t 9))]),
 o0 11 (.call .share 640 [(.t 7),(.c (.int .u8 24)),(.c (.int .i64 0)),(.t 10)]),
 o2 (.store 5 (.t 6) (.t 11))]) .ret))⟩
def zt4:zab:=
 ⟨[.tmp 2],(.seq (.region [0] [o0 2 (.mv (.c (.bool false)))]) (.seq (.region [2] [o3 3 0,
 o0 4 (.call .view 361 [.t 3]),
 o0 5 (.bin .gtr (.t 4) (.c (.int .i64 50000))),o3 2 5]) .ret))⟩
def yjf:zab:=
 ⟨[.cell 4 (some 5)],(.seq (.region [0,1,4] [o0 4 (.alloc [(.slice none 0 0),(.int .u8 0),(.int .i64 0),(.string .empty),(.int .i64 0)])]) (.seq (.region [4] [o3 5 0,o3 6 1,
 o0 7 (.call .share 640 [(.t 5),(.c (.int .u8 22)),(.c (.int .i64 0)),(.t 6)]),
 o2 (.store 5 (.t 4) (.t 7))]) .ret))⟩
def zqd:zab:=
 ⟨[.tmp 4],(.seq (.region [0,1] [o0 4 (.mv (.c (.bool false)))]) (.seq (.region [4] [o3 5 0,o3 6 1,
 o0 7 (.call .view 352 [(.t 5),(.t 6)]),o3 4 7]) .ret))⟩
def yji:zab:=
 ⟨[.cell 8 (some 5)],(.seq (.region [1,2,3,4,8] [o0 4 (.box 1 (.t 0)),
 o0 8 (.alloc [(.slice none 0 0),(.int .u8 0),(.int .i64 0),(.string .empty),(.int .i64 0)])]) (.seq (.region [1,2,3,4,8,9] [o4 13 4,
 o0 14 (.call .look 643 [.t 13]),o3 9 14]) (.seq (.seq (.region [1,2,3,8,9,17] [o3 15 3,
 o0 16 (.mkClo 641 [.t 4]),
 o0 17 (.call .share 749 [(.t 15),(.t 16)])]) (.cond (.t 17) (.seq (.region [8] [o3 18 9,
 o0 19 (.build [(.slice none 0 0),(.int .u8 0),(.int .i64 0),(.string .empty),(.int .i64 0)] [(0,1,(.t 18)),(3,1,(.c (.string ⟨#[107,105,110,100]⟩)))]),
 o2 (.store 5 (.t 8) (.t 19))]) .ret) .skip)) (.seq (.region [1,2,3,8,9,10] [o3 20 9,
 o0 21 (.build [(.slice none 0 0),(.int .i64 0),(.int .i64 0)] [(0,1,(.t 20)),(1,1,(.c (.int .i64 1152921504606846976)))]),
 o0 22 (.box 3 (.t 21)),o3 10 22]) (.seq (.region [1,2,3,8,10,11] [o3 23 9,
 o0 24 (.call .own 642 [.t 23]),o3 11 24]) (.seq (.region [8,10,11,12] [o3 25 10,o3 26 1,o3 27 2,o3 28 3,
 o0 29 (.build [(.int .u8 0),(.int .i64 0),(.slice none 0 0),(.slice none 0 0)] [(0,1,(.t 26)),(1,1,(.t 27)),(2,1,(.t 28))]),
 o0 30 (.call .share 206 [(.t 25),(.t 29)]),
 o0 12 (.alloc [(.int .u8 0),(.int .i64 0),(.string .empty),(.bool false)]),
 o2 (.store 4 (.t 12) (.t 30))]) (.seq (.region [8] [o3 31 10,o7 32 31,o5 33 0 32,o4 34 33,
 o0 35 (.call .look 643 [.t 34]),o5 36 0 12,o6 37 2 36,o5 38 2 12,o4 39 38,o3 40 10,o7 41 40,o5 42 0 41,o4 43 42,o3 44 11,
 o0 45 (.call .view 639 [(.t 43),(.t 44)]),
 o0 46 (.build [(.slice none 0 0),(.int .u8 0),(.int .i64 0),(.string .empty),(.int .i64 0)] [(0,1,(.t 35)),(1,2,(.t 37)),(3,1,(.t 39)),(4,1,(.t 45))]),
 o2 (.store 5 (.t 8) (.t 46))]) .ret)))))))⟩
def zqc:XCode:=
 (.seq (.seq (.region [0,1,5,14] [o3 11 5,o3 12 0,o8 13 12,
 o0 14 (.bin .lss (.t 11) (.t 13))]) (.cond (.t 14) .skip (.exit 0))) (.seq (.block 1 (.seq (.region [0,1,5,26] [o3 17 0,o3 18 5,
 o0 19 (.idxA 5 (.t 17) (.t 18)),o6 20 5 19,o3 21 1,o3 22 5,
 o0 23 (.idxA 5 (.t 21) (.t 22)),o6 24 5 23,
 o0 25 (.call .view 351 [(.t 20),(.t 24)]),
 o0 26 (.un .not (.t 25))]) (.cond (.t 26) (.seq (.region [4] [o0 4 (.mv (.c (.bool false)))]) .ret) .skip))) (.region [0,1,5] [o3 15 5,
 o0 16 (.bin .add (.t 15) (.c (.int .i64 1))),o3 5 16])))
@[simp] def z3z(c0:XCode):zab:=
 ⟨[.tmp 4],(.seq (.region [0,1] [o0 4 (.mv (.c (.bool false)))]) (.seq (.seq (.region [0,1,10] [o3 6 0,o8 7 6,o3 8 1,o8 9 8,o0 10 (.bin .neq (.t 7) (.t 9))]) (.cond (.t 10) (.seq (.region [4] [o0 4 (.mv (.c (.bool false)))]) .ret) .skip)) (.seq (.seq (.region [0,1,5] [o0 5 (.mv (.c (.int .i64 0)))]) (.block 0 (.loop [0,1,5] c0))) (.seq (.region [4] [o0 4 (.mv (.c (.bool true)))]) .ret))))⟩
def zng:zab:=
 z3z zqc
def yjl:XCode:=
 (.seq (.region [3,8,9,10] [o0 10 (.bin .lss (.t 9) (.t 8))]) (.seq (.cond (.t 10) .skip (.exit 0)) (.seq (.block 1 (.seq (.region [3,4,8,9] [o3 11 9,o3 4 11]) (.region [3,8,9] [o3 12 3,o3 13 4,o3 14 3,o3 15 4,
 o0 16 (.idxA 5 (.t 14) (.t 15)),o5 17 2 16,o4 18 17,
 o0 19 (.call .own 742 [.t 18]),
 o0 20 (.call .share 740 [.t 19]),
 o0 21 (.idxA 5 (.t 12) (.t 13)),o5 22 2 21,
 o2 (.store 1 (.t 22) (.t 20))]))) (.region [3,8,9] [o0 23 (.bin .add (.t 9) (.c (.int .i64 1))),o3 9 23]))))
def yjk:zab:=
 ⟨[.tmp 2],(.seq (.region [0] [o0 2 (.mv (.c (.slice none 0 0)))]) (.seq (.region [3] [o3 5 0,
 o0 6 (.call .share 743 [.t 5]),o3 3 6]) (.seq (.seq (.region [3,8,9] [o3 7 3,o8 8 7,
 o0 9 (.mv (.c (.int .i64 0)))]) (.block 0 (.loop [3,8,9] yjl))) (.seq (.region [2] [o3 24 3,
 o0 25 (.call .share 741 [.t 24]),o3 2 25]) .ret))))⟩
def yjj:zab:=
 ⟨[.tmp 3],(.seq (.region [1,2] [o0 2 (.box 2 (.t 0)),
 o0 3 (.mv (.c (.bool false)))]) (.seq (.region [3] [o4 4 1,o6 5 2 2,
 o0 6 (.call .share 646 [(.t 4),(.t 5)]),
 o0 7 (.un .not (.t 6)),o3 3 7]) .ret))⟩
def zlq:XCode:=
 (.seq (.region [2,5,6,7,8] [o0 8 (.bin .lss (.t 7) (.t 6))]) (.seq (.cond (.t 8) .skip (.exit 0)) (.seq (.block 1 (.seq (.region [2,4,5,6,7] [o0 9 (.idxA 5 (.t 5) (.t 7)),o6 10 5 9,
 o0 4 (.alloc [(.int .u8 0),(.string .empty),(.slice none 0 0),(.int .i64 0),(.int .i64 0)]),
 o2 (.store 5 (.t 4) (.t 10))]) (.region [2,5,6,7] [o3 11 2,o6 12 5 4,
 o0 13 (.call .view 578 [.t 12]),
 o0 14 (.buildSlice 1 [(.int .i64 0)] 1 [(0,1,(.t 13))]),
 o0 15 (.append 1 8 (.t 11) (.t 14)),o3 2 15]))) (.region [2,5,6,7] [o0 16 (.bin .add (.t 7) (.c (.int .i64 1))),o3 7 16]))))
def zlp:zab:=
 ⟨[.tmp 2],(.seq (.region [0,2] [o0 2 (.mv (.c (.slice none 0 0)))]) (.seq (.seq (.region [2,5,6,7] [o3 5 0,o8 6 5,
 o0 7 (.mv (.c (.int .i64 0)))]) (.block 0 (.loop [2,5,6,7] zlq))) (.seq (.region [2] [o3 17 2,o3 2 17]) .ret)))⟩
def zfq:zab:=
 ⟨[.cell 4 (some 4)],(.seq (.region [0,3,4] [o0 3 (.box 4 (.t 1)),
 o0 4 (.alloc [(.int .u8 0),(.int .i64 0),(.string .empty),(.bool false)])]) (.seq (.region [0,3,4,5] [o5 9 2 3,o4 10 9,o3 5 10]) (.seq (.seq (.region [0,3,4,5,12] [o5 11 0 3,o4 12 11]) (.block 0 (.seq (.region [0,3,4,5,12,13] [o0 14 (.bin .eql (.t 12) (.c (.int .u8 1))),o3 13 14]) (.cond (.t 13) (.seq (.seq (.region [0,3,4,6] [o5 15 3 3,o4 16 15,o5 17 1 3,o4 18 17,
 o0 19 (.idxA 3 (.t 16) (.t 18)),o6 20 3 19,
 o0 6 (.alloc [(.int .u8 0),(.int .i64 0),(.string .empty)]),
 o2 (.store 3 (.t 6) (.t 20))]) (.seq (.region [0,3,4,6,23] [o5 21 0 6,o4 22 21,
 o0 23 (.bin .eql (.t 22) (.c (.int .u8 3)))]) (.cond (.t 23) (.seq (.region [4] [o3 24 0,o5 25 2 6,o4 26 25,
 o0 27 (.call .share 219 [(.t 24),(.t 26)]),
 o2 (.store 4 (.t 4) (.t 27))]) .ret) .skip))) (.seq (.region [4] [o5 28 3 3,o4 29 28,o5 30 1 3,o4 31 30,
 o0 32 (.idxA 3 (.t 29) (.t 31)),o5 33 1 32,o4 34 33,
 o0 35 (.build [(.int .u8 0),(.int .i64 0)] [(0,1,(.c (.int .u8 2))),(1,1,(.t 34))]),
 o0 36 (.build [(.int .u8 0),(.int .i64 0),(.string .empty),(.bool false)] [(0,2,(.t 35))]),
 o2 (.store 4 (.t 4) (.t 36))]) .ret)) (.seq (.region [0,3,4,5,37] [o0 38 (.bin .eql (.t 12) (.c (.int .u8 26))),o3 37 38]) (.cond (.t 37) (.seq (.seq (.region [0,3,4,5,40] [o3 39 5,
 o0 40 (.call .share 749 [(.t 39),(.f 207)])]) (.cond (.t 40) (.seq (.region [4] [o0 41 (.build [(.int .u8 0),(.int .i64 0),(.string .empty),(.bool false)] [(2,1,(.c (.string ⟨#[107,105,110,100]⟩)))]),
 o2 (.store 4 (.t 4) (.t 41))]) .ret) .skip)) (.seq (.region [4] [o3 42 0,o3 43 5,
 o0 44 (.call .own 742 [.t 43]),o5 45 1 3,o4 46 45,
 o0 47 (.build [(.int .u8 0),(.string .empty),(.slice none 0 0),(.int .i64 0),(.int .i64 0)] [(0,1,(.c (.int .u8 6))),(2,1,(.t 44)),(4,1,(.t 46))]),
 o0 48 (.call .share 212 [(.t 42),(.t 47)]),
 o2 (.store 4 (.t 4) (.t 48))]) .ret)) .skip)))))) (.seq (.seq (.region [0,3,4,5,50] [o3 49 5,
 o0 50 (.call .view 580 [.t 49])]) (.cond (.t 50) (.seq (.region [4] [o0 51 (.build [(.int .u8 0),(.int .i64 0),(.string .empty),(.bool false)] [(2,1,(.c (.string ⟨#[107,105,110,100]⟩)))]),
 o2 (.store 4 (.t 4) (.t 51))]) .ret) .skip)) (.seq (.seq (.region [0,3,4,5,53] [o5 52 0 3,o4 53 52]) (.block 1 (.seq (.region [0,3,4,5,53,54] [o0 55 (.bin .eql (.t 53) (.c (.int .u8 14))),o3 54 55]) (.cond (.t 54) (.seq (.region [4] [o3 56 0,o5 57 1 3,o4 58 57,
 o0 59 (.conv .u8 (.t 58)),o3 60 5,
 o0 61 (.idxA 2 (.t 60) (.c (.int .i64 0))),o6 62 2 61,o3 63 5,
 o0 64 (.idxA 2 (.t 63) (.c (.int .i64 1))),o6 65 2 64,
 o0 66 (.call .share 210 [(.t 56),(.t 59),(.t 62),(.t 65)]),
 o2 (.store 4 (.t 4) (.t 66))]) .ret) (.seq (.region [0,4,5,53,67] [o0 68 (.bin .eql (.t 53) (.c (.int .u8 15))),o3 67 68]) (.cond (.t 67) (.seq (.region [4,5,73] [o3 69 5,
 o0 70 (.idxA 2 (.t 69) (.c (.int .i64 0))),o5 71 0 70,o4 72 71,
 o0 73 (.bin .eql (.t 72) (.c (.int .u8 1)))]) (.cond (.t 73) (.seq (.region [4] [o3 74 5,
 o0 75 (.idxA 2 (.t 74) (.c (.int .i64 0))),o5 76 1 75,o4 77 76,
 o0 78 (.bin .eql (.t 77) (.c (.int .i64 0))),
 o0 79 (.call .view 588 [.t 78]),
 o0 80 (.build [(.int .u8 0),(.int .i64 0),(.string .empty),(.bool false)] [(0,2,(.t 79))]),
 o2 (.store 4 (.t 4) (.t 80))]) .ret) .skip)) (.seq (.region [0,4,5,53,81] [o0 82 (.bin .eql (.t 53) (.c (.int .u8 16))),o3 81 82]) (.cond (.t 81) (.seq (.region [4,5,87] [o3 83 5,
 o0 84 (.idxA 2 (.t 83) (.c (.int .i64 0))),o5 85 0 84,o4 86 85,
 o0 87 (.bin .eql (.t 86) (.c (.int .u8 2)))]) (.cond (.t 87) (.seq (.region [4] [o3 88 5,
 o0 89 (.idxA 2 (.t 88) (.c (.int .i64 0))),o5 90 1 89,o4 91 90,
 o0 92 (.un .neg (.t 91)),
 o0 93 (.build [(.int .u8 0),(.int .i64 0)] [(0,1,(.c (.int .u8 2))),(1,1,(.t 92))]),
 o0 94 (.build [(.int .u8 0),(.int .i64 0),(.string .empty),(.bool false)] [(0,2,(.t 93))]),
 o2 (.store 4 (.t 4) (.t 94))]) .ret) .skip)) (.seq (.region [0,4,5,53,95] [o0 96 (.bin .eql (.t 53) (.c (.int .u8 17))),o3 95 96]) (.cond (.t 95) (.seq (.region [4] [o3 97 0,o3 98 5,
 o0 99 (.idxA 2 (.t 98) (.c (.int .i64 0))),o6 100 2 99,
 o0 101 (.call .share 217 [(.t 97),(.t 100)]),
 o2 (.store 4 (.t 4) (.t 101))]) .ret) (.seq (.region [0,4,5,53,102] [o0 103 (.bin .eql (.t 53) (.c (.int .u8 18))),o3 102 103]) (.cond (.t 102) (.seq (.region [0,4,7,8] [o3 105 0,o3 106 5,
 o0 107 (.idxA 2 (.t 106) (.c (.int .i64 0))),o6 108 2 107,
 o0 109 (.call .share 208 [(.t 105),(.t 108)]),o3 104 109,
 o0 110 (.extract (.t 104) 0),
 o0 111 (.extract (.t 104) 1),o3 7 110,o3 8 111]) (.seq (.seq (.region [0,4,7,113] [o3 112 8,
 o0 113 (.un .not (.t 112))]) (.cond (.t 113) (.seq (.region [4] [o0 114 (.build [(.int .u8 0),(.int .i64 0),(.string .empty),(.bool false)] [(2,1,(.c (.string ⟨#[103,114,101,97,116]⟩)))]),
 o2 (.store 4 (.t 4) (.t 114))]) .ret) .skip)) (.seq (.region [4] [o3 115 0,o3 116 7,
 o0 117 (.call .share 219 [(.t 115),(.t 116)]),
 o2 (.store 4 (.t 4) (.t 117))]) .ret))) (.seq (.region [0,4,5,53,118] [o0 119 (.bin .eql (.t 53) (.c (.int .u8 22))),o3 118 119]) (.cond (.t 118) (.seq (.seq (.region [0,4,5,122] [o3 120 5,o8 121 120,
 o0 122 (.bin .gtr (.t 121) (.c (.int .i64 65536)))]) (.cond (.t 122) (.seq (.region [4] [o0 123 (.build [(.int .u8 0),(.int .i64 0),(.string .empty),(.bool false)] [(2,1,(.c (.string ⟨#[105,116,101,109,115]⟩)))]),
 o2 (.store 4 (.t 4) (.t 123))]) .ret) .skip)) (.seq (.region [4] [o3 124 0,o3 125 5,
 o0 126 (.call .own 742 [.t 125]),o3 127 5,o8 128 127,
 o0 129 (.build [(.int .u8 0),(.string .empty),(.slice none 0 0),(.int .i64 0),(.int .i64 0)] [(0,1,(.c (.int .u8 4))),(2,1,(.t 126)),(3,1,(.t 128))]),
 o0 130 (.call .share 212 [(.t 124),(.t 129)]),
 o2 (.store 4 (.t 4) (.t 130))]) .ret)) (.seq (.region [0,4,5,53,131] [o0 132 (.bin .eql (.t 53) (.c (.int .u8 23))),o3 131 132]) (.cond (.t 131) (.seq (.region [4] [o3 133 0,o3 134 5,
 o0 135 (.call .share 214 [(.t 133),(.t 134)]),
 o2 (.store 4 (.t 4) (.t 135))]) .ret) (.seq (.region [0,4,5,53,136] [o0 137 (.bin .eql (.t 53) (.c (.int .u8 7))),o3 136 137]) (.cond (.t 136) (.seq (.region [4] [o3 138 0,o3 139 5,
 o0 140 (.call .own 742 [.t 139]),
 o0 141 (.build [(.int .u8 0),(.string .empty),(.slice none 0 0),(.int .i64 0),(.int .i64 0)] [(0,1,(.c (.int .u8 7))),(2,1,(.t 140))]),
 o0 142 (.call .share 212 [(.t 138),(.t 141)]),
 o2 (.store 4 (.t 4) (.t 142))]) .ret) (.seq (.region [0,4,5,53,143] [o0 144 (.bin .eql (.t 53) (.c (.int .u8 24))),o3 143 144]) (.cond (.t 143) (.seq (.region [4] [o3 145 0,o3 146 5,
 o0 147 (.idxA 2 (.t 146) (.c (.int .i64 0))),o6 148 2 147,o3 149 5,
 o0 150 (.idxA 2 (.t 149) (.c (.int .i64 1))),o6 151 2 150,
 o0 152 (.call .share 211 [(.t 145),(.t 148),(.t 151)]),
 o2 (.store 4 (.t 4) (.t 152))]) .ret) (.seq (.region [0,4,5,153] [o0 154 (.bin .eql (.t 53) (.c (.int .u8 25))),o3 153 154]) (.cond (.t 153) (.seq (.region [4] [o3 155 0,o3 156 5,
 o0 157 (.idxA 2 (.t 156) (.c (.int .i64 0))),o6 158 2 157,o3 159 5,
 o0 160 (.idxA 2 (.t 159) (.c (.int .i64 1))),o6 161 2 160,o3 162 5,
 o0 163 (.idxA 2 (.t 162) (.c (.int .i64 2))),o6 164 2 163,
 o0 165 (.call .share 215 [(.t 155),(.t 158),(.t 161),(.t 164)]),
 o2 (.store 4 (.t 4) (.t 165))]) .ret) .skip)))))))))))))))))))))) (.seq (.region [4] [o0 166 (.build [(.int .u8 0),(.int .i64 0),(.string .empty),(.bool false)] [(2,1,(.c (.string ⟨#[107,105,110,100]⟩)))]),
 o2 (.store 4 (.t 4) (.t 166))]) .ret))))))⟩
def znp:XCode:=
 (.seq (.region [1,4,7,8,9,10] [o0 10 (.bin .lss (.t 9) (.t 8))]) (.seq (.cond (.t 10) .skip (.exit 0)) (.seq (.block 1 (.seq (.region [1,4,5,6,7,8,9] [o3 11 9,
 o0 12 (.idxA 5 (.t 7) (.t 9)),o6 13 5 12,
 o0 6 (.alloc [(.int .u8 0),(.string .empty),(.slice none 0 0),(.int .i64 0),(.int .i64 0)]),o3 5 11,
 o2 (.store 5 (.t 6) (.t 13))]) (.block 2 (.seq (.region [1,4,5,6,7,8,9,14] [o3 15 5,o3 16 1,o8 17 16,
 o0 18 (.bin .geq (.t 15) (.t 17)),o3 14 18]) (.cond (.t 14) (.region [1,4,7,8,9] [o3 19 4,o6 20 5 6,
 o0 21 (.call .view 578 [.t 20]),
 o0 22 (.bin .add (.t 19) (.t 21)),o3 4 22]) (.seq (.region [1,4,6,7,8,9,23] [o6 24 5 6,
 o0 25 (.call .view 578 [.t 24]),o3 26 1,o3 27 5,
 o0 28 (.idxA 1 (.t 26) (.t 27)),o4 29 28,
 o0 30 (.bin .neq (.t 25) (.t 29)),o3 23 30]) (.cond (.t 23) (.region [1,4,7,8,9] [o3 31 4,o5 32 3 6,o4 33 32,
 o0 34 (.bin .mul (.c (.int .i64 2)) (.t 33)),
 o0 35 (.bin .add (.c (.int .i64 1)) (.t 34)),
 o0 36 (.bin .add (.t 31) (.t 35)),o3 4 36]) .skip))))))) (.region [1,4,7,8,9] [o0 37 (.bin .add (.t 9) (.c (.int .i64 1))),o3 9 37]))))
def zlo:zab:=
 ⟨[.tmp 4],(.seq (.region [0,1,4] [o0 4 (.mv (.c (.int .i64 0)))]) (.seq (.seq (.region [1,4,7,8,9] [o3 7 0,o8 8 7,
 o0 9 (.mv (.c (.int .i64 0)))]) (.block 0 (.loop [1,4,7,8,9] znp))) (.seq (.region [4] [o3 38 4,o3 4 38]) .ret)))⟩
def zlg:zab:=
 ⟨[.tmp 4],(.seq (.region [2,3] [o0 2 (.box 5 (.t 0)),
 o0 3 (.box 5 (.t 1)),
 o0 4 (.mv (.c (.bool false)))]) (.seq (.region [4] [o5 5 0 2,o4 6 5,o5 7 0 3,o4 8 7,
 o0 9 (.bin .eql (.t 6) (.t 8)),o3 10 9,
 o1 11 10 true (.fieldA 1 (.t 2)),
 o1 12 10 true (.load none (.t 11)),
 o1 13 10 true (.fieldA 1 (.t 3)),
 o1 14 10 true (.load none (.t 13)),
 o1 15 10 true (.bin .eql (.t 12) (.t 14)),
 o0 16 (.pick (.t 10) (.t 15) (.c (.bool false))),o3 17 16,
 o1 18 17 true (.fieldA 2 (.t 2)),
 o1 19 17 true (.load none (.t 18)),
 o1 20 17 true (.fieldA 2 (.t 3)),
 o1 21 17 true (.load none (.t 20)),
 o1 22 17 true (.call .view 357 [(.t 19),(.t 21)]),
 o0 23 (.pick (.t 17) (.t 22) (.c (.bool false))),o3 24 23,
 o1 25 24 true (.fieldA 3 (.t 2)),
 o1 26 24 true (.load none (.t 25)),
 o1 27 24 true (.fieldA 3 (.t 3)),
 o1 28 24 true (.load none (.t 27)),
 o1 29 24 true (.bin .eql (.t 26) (.t 28)),
 o0 30 (.pick (.t 24) (.t 29) (.c (.bool false))),o3 31 30,
 o1 32 31 true (.fieldA 4 (.t 2)),
 o1 33 31 true (.load none (.t 32)),
 o1 34 31 true (.fieldA 4 (.t 3)),
 o1 35 31 true (.load none (.t 34)),
 o1 36 31 true (.bin .eql (.t 33) (.t 35)),
 o0 37 (.pick (.t 31) (.t 36) (.c (.bool false))),o3 4 37]) .ret))⟩
def zfr:zab:=
 ⟨[.tmp 2],(.seq (.region [0] [o0 2 (.mv (.c (.slice none 0 0)))]) (.seq (.seq (.region [0,4] [o3 3 0,
 o0 4 (.eqNil false 0 (.t 3))]) (.cond (.t 4) (.seq (.region [2] [o0 2 (.mv (.c (.slice none 0 0)))]) .ret) .skip)) (.seq (.region [2] [o0 5 (.buildSlice 5 [(.int .u8 0),(.string .empty),(.slice none 0 0),(.int .i64 0),(.int .i64 0)] 0 []),o3 6 0,
 o0 7 (.append 5 64 (.t 5) (.t 6)),o3 2 7]) .ret)))⟩
def zes:zab:=
 ⟨[.tmp 2],(.seq (.region [0] [o0 2 (.mv (.c (.slice none 0 0)))]) (.seq (.region [2] [o3 3 0,o3 4 0,o8 5 4,o3 6 0,o8 7 6,
 o0 8 (.slice3 2 (.t 3) (.t 5) (.t 7)),o3 2 8]) .ret))⟩
def zda:zab:=
 ⟨[.tmp 2],(.seq (.region [0] [o0 2 (.mv (.c (.slice none 0 0)))]) (.seq (.seq (.region [0,4] [o3 3 0,
 o0 4 (.eqNil false 0 (.t 3))]) (.cond (.t 4) (.seq (.region [2] [o0 2 (.mv (.c (.slice none 0 0)))]) .ret) .skip)) (.seq (.region [2] [o0 5 (.buildSlice 2 [(.int .u8 0),(.int .i64 0)] 0 []),o3 6 0,
 o0 7 (.append 2 16 (.t 5) (.t 6)),o3 2 7]) .ret)))⟩
def zgn:zab:=
 ⟨[.tmp 2],(.seq (.region [0] [o0 2 (.mv (.c (.slice none 0 0)))]) (.seq (.region [2] [o3 3 0,o3 4 0,o8 5 4,o3 6 0,o8 7 6,
 o0 8 (.slice3 5 (.t 3) (.t 5) (.t 7)),o3 2 8]) .ret))⟩
def zfb:zab:=
 ⟨[.tmp 2],(.seq (.region [1] [o0 1 (.box 5 (.t 0)),
 o0 2 (.mv (.c (.int .i64 0)))]) (.seq (.seq (.region [1,4] [o5 3 0 1,o4 4 3]) (.block 0 (.seq (.region [1,4,5] [o0 6 (.bin .eql (.t 4) (.c (.int .u8 3))),o3 5 6]) (.cond (.t 5) (.seq (.region [2] [o5 7 1 1,o4 8 7,
 o0 9 (.lenS (.t 8)),
 o0 10 (.bin .add (.t 9) (.c (.int .i64 7))),
 o0 11 (.bin .quo (.t 10) (.c (.int .i64 8))),
 o0 12 (.bin .add (.c (.int .i64 2)) (.t 11)),o3 2 12]) .ret) (.seq (.region [1,4,13] [o0 14 (.bin .eql (.t 4) (.c (.int .u8 6))),o3 13 14]) (.cond (.t 13) (.seq (.region [2] [o5 15 2 1,o4 16 15,o8 17 16,
 o0 18 (.bin .mul (.c (.int .i64 2)) (.t 17)),
 o0 19 (.bin .add (.c (.int .i64 2)) (.t 18)),o3 2 19]) .ret) (.seq (.seq (.region [1,4,20] [o0 21 (.bin .eql (.t 4) (.c (.int .u8 4))),o3 20 21]) (.cond (.t 20) .skip (.region [1,20] [o0 22 (.bin .eql (.t 4) (.c (.int .u8 5))),o3 20 22]))) (.cond (.t 20) (.seq (.region [1,25] [o5 23 3 1,o4 24 23,
 o0 25 (.bin .gtr (.t 24) (.c (.int .i64 0)))]) (.cond (.t 25) (.seq (.region [2] [o5 26 3 1,o4 27 26,
 o0 28 (.bin .mul (.c (.int .i64 2)) (.t 27)),
 o0 29 (.bin .add (.c (.int .i64 4)) (.t 28)),o3 2 29]) .ret) .skip)) .skip)))))))) (.seq (.region [2] [o0 2 (.mv (.c (.int .i64 3)))]) .ret)))⟩
def znd:zab:=
 ⟨[.cell 4 (some 4)],(.seq (.region [0,1,4] [o0 4 (.alloc [(.int .u8 0),(.int .i64 0),(.string .empty),(.bool false)])]) (.seq (.seq (.region [0,1,4,7] [o3 5 1,
 o0 6 (.lenS (.t 5)),
 o0 7 (.bin .gtr (.t 6) (.c (.int .i64 4096)))]) (.cond (.t 7) (.seq (.region [4] [o0 8 (.build [(.int .u8 0),(.int .i64 0),(.string .empty),(.bool false)] [(2,1,(.c (.string ⟨#[103,114,101,97,116]⟩)))]),
 o2 (.store 4 (.t 4) (.t 8))]) .ret) .skip)) (.seq (.region [4] [o3 9 0,o3 10 1,
 o0 11 (.build [(.int .u8 0),(.string .empty),(.slice none 0 0),(.int .i64 0),(.int .i64 0)] [(0,1,(.c (.int .u8 3))),(1,1,(.t 10))]),
 o0 12 (.call .share 212 [(.t 9),(.t 11)]),
 o2 (.store 4 (.t 4) (.t 12))]) .ret)))⟩
def zj6:zab:=
 ⟨[.tmp 2],(.seq (.region [1] [o0 1 (.box 2 (.t 0)),
 o0 2 (.mv (.c (.bool false)))]) (.seq (.region [2] [o5 3 0 1,o4 4 3,
 o0 5 (.bin .neq (.t 4) (.c (.int .u8 7))),o3 2 5]) .ret))⟩
def zi8:zab:=
 ⟨[.cell 4 (some 4)],(.seq (.region [0,3,4] [o0 3 (.box 5 (.t 1)),
 o0 4 (.alloc [(.int .u8 0),(.int .i64 0),(.string .empty),(.bool false)])]) (.seq (.seq (.region [0,3,4,9] [o3 5 0,o6 6 5 3,
 o0 7 (.call .view 578 [.t 6]),
 o0 8 (.call .share 218 [(.t 5),(.t 7)]),
 o0 9 (.un .not (.t 8))]) (.cond (.t 9) (.seq (.region [4] [o0 10 (.build [(.int .u8 0),(.int .i64 0),(.string .empty),(.bool false)] [(3,1,(.c (.bool true)))]),
 o2 (.store 4 (.t 4) (.t 10))]) .ret) .skip)) (.seq (.region [0,3,4] [o3 11 0,o3 12 0,o7 13 12,o5 14 0 13,o4 15 14,o6 16 5 3,
 o0 17 (.buildSlice 5 [(.int .u8 0),(.string .empty),(.slice none 0 0),(.int .i64 0),(.int .i64 0)] 1 [(0,5,(.t 16))]),
 o0 18 (.append 5 64 (.t 15) (.t 17)),o7 19 11,o5 20 0 19,
 o2 (.store 1 (.t 20) (.t 18))]) (.seq (.region [4] [o5 21 0 3,o4 22 21,o3 23 0,o7 24 23,o5 25 0 24,o4 26 25,o8 27 26,
 o0 28 (.build [(.int .u8 0),(.int .i64 0)] [(0,1,(.t 22)),(1,1,(.t 27))]),
 o0 29 (.build [(.int .u8 0),(.int .i64 0),(.string .empty),(.bool false)] [(0,2,(.t 28))]),
 o2 (.store 4 (.t 4) (.t 29))]) .ret))))⟩
def zno:XCode:=
 (.seq (.region [5,6,7,8] [o0 8 (.bin .lss (.t 7) (.t 6))]) (.seq (.cond (.t 8) .skip (.exit 0)) (.seq (.block 1 (.seq (.region [4,5,6,7] [o0 9 (.idxA 2 (.t 5) (.t 7)),o6 10 2 9,
 o0 4 (.alloc [(.int .u8 0),(.int .i64 0)]),
 o2 (.store 2 (.t 4) (.t 10))]) (.seq (.region [5,6,7,13] [o5 11 0 4,o4 12 11,
 o0 13 (.bin .eql (.t 12) (.c (.int .u8 7)))]) (.cond (.t 13) (.seq (.region [2] [o0 2 (.mv (.c (.bool true)))]) .ret) .skip)))) (.region [5,6,7] [o0 14 (.bin .add (.t 7) (.c (.int .i64 1))),o3 7 14]))))
def zlm:zab:=
 ⟨[.tmp 2],(.seq (.region [0] [o0 2 (.mv (.c (.bool false)))]) (.seq (.seq (.region [5,6,7] [o3 5 0,o8 6 5,
 o0 7 (.mv (.c (.int .i64 0)))]) (.block 0 (.loop [5,6,7] zno))) (.seq (.region [2] [o0 2 (.mv (.c (.bool false)))]) .ret)))⟩
def zx9:zab:=
 ⟨[.cell 8 (some 4)],(.seq (.region [0,1,6,7,8] [o0 6 (.box 2 (.t 2)),
 o0 7 (.box 2 (.t 3)),
 o0 8 (.alloc [(.int .u8 0),(.int .i64 0),(.string .empty),(.bool false)])]) (.seq (.block 0 (.seq (.region [0,1,6,7,8,13] [o3 14 1,
 o0 15 (.bin .eql (.t 14) (.c (.int .u8 8))),o3 16 15,
 o1 17 16 false (.mv (.t 1)),
 o1 18 16 false (.bin .eql (.t 17) (.c (.int .u8 9))),
 o0 19 (.pick (.t 16) (.c (.bool true)) (.t 18)),o3 13 19]) (.cond (.t 13) (.seq (.region [8] [o3 20 0,o6 21 2 6,o6 22 2 7,
 o0 23 (.call .peek 216 [(.t 20),(.t 21),(.t 22)]),o3 24 1,
 o0 25 (.bin .eql (.t 24) (.c (.int .u8 8))),
 o0 26 (.binB .eql (.t 23) (.t 25)),
 o0 27 (.call .view 588 [.t 26]),
 o0 28 (.build [(.int .u8 0),(.int .i64 0),(.string .empty),(.bool false)] [(0,2,(.t 27))]),
 o2 (.store 4 (.t 8) (.t 28))]) .ret) (.seq (.region [0,1,6,7,8,29] [o5 30 0 6,o4 31 30,
 o0 32 (.bin .eql (.t 31) (.c (.int .u8 2))),o3 33 32,
 o1 34 33 true (.fieldA 0 (.t 7)),
 o1 35 33 true (.load none (.t 34)),
 o1 36 33 true (.bin .eql (.t 35) (.c (.int .u8 2))),
 o0 37 (.pick (.t 33) (.t 36) (.c (.bool false))),o3 29 37]) (.cond (.t 29) (.seq (.region [8,9,10] [o3 39 1,o5 40 1 6,o4 41 40,o5 42 1 7,o4 43 42,
 o0 44 (.call .view 579 [(.t 39),(.t 41),(.t 43)]),o3 38 44,
 o0 45 (.extract (.t 38) 0),
 o0 46 (.extract (.t 38) 1),
 o0 9 (.alloc [(.int .u8 0),(.int .i64 0)]),
 o2 (.store 2 (.t 9) (.t 45)),o3 10 46]) (.seq (.region [8] [o6 47 2 9,o3 48 10,
 o0 49 (.build [(.int .u8 0),(.int .i64 0),(.string .empty),(.bool false)] [(0,2,(.t 47)),(2,1,(.t 48))]),
 o2 (.store 4 (.t 8) (.t 49))]) .ret)) (.seq (.region [0,1,6,7,8,50] [o5 51 0 6,o4 52 51,
 o0 53 (.bin .neq (.t 52) (.c (.int .u8 3))),o3 54 53,
 o1 55 54 false (.fieldA 0 (.t 7)),
 o1 56 54 false (.load none (.t 55)),
 o1 57 54 false (.bin .neq (.t 56) (.c (.int .u8 3))),
 o0 58 (.pick (.t 54) (.c (.bool true)) (.t 57)),o3 50 58]) (.cond (.t 50) (.seq (.region [8] [o0 59 (.build [(.int .u8 0),(.int .i64 0),(.string .empty),(.bool false)] [(2,1,(.c (.string ⟨#[107,105,110,100]⟩)))]),
 o2 (.store 4 (.t 8) (.t 59))]) .ret) .skip))))))) (.seq (.region [0,1,8,11,12] [o3 60 0,o6 61 2 6,
 o0 62 (.call .look 213 [(.t 60),(.t 61)]),o7 63 62,o5 64 1 63,o4 65 64,o3 66 0,o6 67 2 7,
 o0 68 (.call .look 213 [(.t 66),(.t 67)]),o7 69 68,o5 70 1 69,o4 71 70,o3 11 65,o3 12 71]) (.seq (.seq (.region [0,8,11,12,72] [o3 72 1]) (.block 1 (.seq (.region [0,8,11,12,72,73] [o0 74 (.bin .eql (.t 72) (.c (.int .u8 1))),o3 73 74]) (.cond (.t 73) (.seq (.region [8] [o3 75 0,o3 76 11,o3 77 12,
 o0 78 (.bin .add (.t 76) (.t 77)),
 o0 79 (.call .share 219 [(.t 75),(.t 78)]),
 o2 (.store 4 (.t 8) (.t 79))]) .ret) (.seq (.region [8,11,12,72,80] [o0 81 (.bin .eql (.t 72) (.c (.int .u8 6))),o3 80 81]) (.cond (.t 80) (.seq (.region [8] [o3 82 11,o3 83 12,
 o0 84 (.bin .lss (.t 82) (.t 83)),
 o0 85 (.call .view 588 [.t 84]),
 o0 86 (.build [(.int .u8 0),(.int .i64 0),(.string .empty),(.bool false)] [(0,2,(.t 85))]),
 o2 (.store 4 (.t 8) (.t 86))]) .ret) (.seq (.region [8,11,12,87] [o0 88 (.bin .eql (.t 72) (.c (.int .u8 7))),o3 87 88]) (.cond (.t 87) (.seq (.region [8] [o3 89 11,o3 90 12,
 o0 91 (.bin .leq (.t 89) (.t 90)),
 o0 92 (.call .view 588 [.t 91]),
 o0 93 (.build [(.int .u8 0),(.int .i64 0),(.string .empty),(.bool false)] [(0,2,(.t 92))]),
 o2 (.store 4 (.t 8) (.t 93))]) .ret) .skip)))))))) (.seq (.region [8] [o0 94 (.build [(.int .u8 0),(.int .i64 0),(.string .empty),(.bool false)] [(2,1,(.c (.string ⟨#[107,105,110,100]⟩)))]),
 o2 (.store 4 (.t 8) (.t 94))]) .ret)))))⟩
def zyk:zab:=
 ⟨[.cell 2 (some 2)],(.seq (.region [0,2] [o0 2 (.alloc [(.int .u8 0),(.int .i64 0)])]) (.seq (.region [0,2,3] [o0 4 (.build [(.int .u8 0),(.int .i64 0)] [(0,1,(.c (.int .u8 1)))]),
 o0 3 (.alloc [(.int .u8 0),(.int .i64 0)]),
 o2 (.store 2 (.t 3) (.t 4))]) (.seq (.seq (.region [2,3,5] [o3 5 0]) (.cond (.t 5) (.region [2,3] [o5 6 1 3,
 o2 (.store 1 (.t 6) (.c (.int .i64 1)))]) .skip)) (.seq (.region [2] [o6 7 2 3,
 o2 (.store 2 (.t 2) (.t 7))]) .ret))))⟩
def yix:zab:=
 ⟨[.cell 4 (some 4)],(.seq (.region [0,3,4] [o0 3 (.box 2 (.t 1)),
 o0 4 (.alloc [(.int .u8 0),(.int .i64 0),(.string .empty),(.bool false)])]) (.seq (.region [0,3,4] [o0 5 (.mv (.c (.int .i64 0)))]) (.seq (.seq (.region [0,3,4,7] [o5 6 0 3,o4 7 6]) (.block 0 (.seq (.region [0,3,4,7,9] [o0 10 (.bin .eql (.t 7) (.c (.int .u8 3))),o3 9 10]) (.cond (.t 9) (.region [4,5] [o3 11 0,o6 12 2 3,
 o0 13 (.call .look 213 [(.t 11),(.t 12)]),o7 14 13,o5 15 1 14,o4 16 15,
 o0 17 (.lenS (.t 16)),o3 5 17]) (.seq (.region [0,3,4,7,18] [o0 19 (.bin .eql (.t 7) (.c (.int .u8 4))),o3 18 19]) (.cond (.t 18) (.region [4,5] [o3 20 0,o6 21 2 3,
 o0 22 (.call .look 213 [(.t 20),(.t 21)]),o7 23 22,o5 24 2 23,o4 25 24,o8 26 25,o3 5 26]) (.seq (.region [0,3,4,27] [o0 28 (.bin .eql (.t 7) (.c (.int .u8 5))),o3 27 28]) (.cond (.t 27) (.region [4,5] [o3 29 0,o6 30 2 3,
 o0 31 (.call .look 213 [(.t 29),(.t 30)]),o7 32 31,o5 33 2 32,o4 34 33,o8 35 34,
 o0 36 (.bin .quo (.t 35) (.c (.int .i64 2))),o3 5 36]) (.seq (.region [4] [o0 8 (.build [(.int .u8 0),(.int .i64 0),(.string .empty),(.bool false)] [(2,1,(.c (.string ⟨#[107,105,110,100]⟩)))]),
 o2 (.store 4 (.t 4) (.t 8))]) .ret))))))))) (.seq (.region [4] [o3 37 5,
 o0 38 (.build [(.int .u8 0),(.int .i64 0)] [(0,1,(.c (.int .u8 2))),(1,1,(.t 37))]),
 o0 39 (.build [(.int .u8 0),(.int .i64 0),(.string .empty),(.bool false)] [(0,2,(.t 38))]),
 o2 (.store 4 (.t 4) (.t 39))]) .ret))))⟩
def z5a:zab:=
 ⟨[.tmp 4,.tmp 5],(.seq (.region [0,3] [o0 3 (.box 2 (.t 1)),
 o0 4 (.mv (.c (.string .empty))),
 o0 5 (.mv (.c (.bool false)))]) (.seq (.region [4,5] [o3 6 0,o7 7 6,o5 8 0 7,o4 9 8,o6 10 2 3,
 o0 11 (.call .view 648 [(.t 9),(.t 10)]),
 o0 12 (.extract (.t 11) 0),
 o0 13 (.extract (.t 11) 1),o3 4 12,o3 5 13]) .ret))⟩
def zj7:XCode:=
 (.seq (.seq (.region [0,1,4,5,6,22] [o3 19 6,o3 20 1,o8 21 20,
 o0 22 (.bin .lss (.t 19) (.t 21))]) (.cond (.t 22) .skip (.exit 1))) (.seq (.block 2 (.seq (.region [0,1,4,5,6,7] [o3 25 0,o3 26 5,o3 27 1,o3 28 6,
 o0 29 (.idxA 2 (.t 27) (.t 28)),o6 30 2 29,
 o0 31 (.call .peek 209 [(.t 25),(.t 26),(.t 30)]),o3 7 31]) (.seq (.region [0,1,4,5,6,7,33] [o3 32 7,
 o0 33 (.bin .geq (.t 32) (.c (.int .i64 0)))]) (.cond (.t 33) (.region [0,1,4,5,6] [o3 34 5,o3 35 7,
 o0 36 (.bin .add (.t 35) (.c (.int .i64 1))),o3 37 1,o3 38 6,
 o0 39 (.bin .add (.t 38) (.c (.int .i64 1))),
 o0 40 (.idxA 2 (.t 37) (.t 39)),o6 41 2 40,
 o0 42 (.idxA 2 (.t 34) (.t 36)),
 o2 (.store 2 (.t 42) (.t 41))]) (.region [0,1,4,5,6] [o3 43 5,o3 44 1,o3 45 6,
 o0 46 (.idxA 2 (.t 44) (.t 45)),o6 47 2 46,o3 48 1,o3 49 6,
 o0 50 (.bin .add (.t 49) (.c (.int .i64 1))),
 o0 51 (.idxA 2 (.t 48) (.t 50)),o6 52 2 51,
 o0 53 (.buildSlice 2 [(.int .u8 0),(.int .i64 0)] 2 [(0,2,(.t 47)),(2,2,(.t 52))]),
 o0 54 (.append 2 16 (.t 43) (.t 53)),o3 5 54]))))) (.region [0,1,4,5,6] [o3 23 6,
 o0 24 (.bin .add (.t 23) (.c (.int .i64 2))),o3 6 24])))
def zp8:zab:=
 ⟨[.cell 4 (some 4)],(.seq (.region [0,1,4] [o0 4 (.alloc [(.int .u8 0),(.int .i64 0),(.string .empty),(.bool false)])]) (.seq (.block 0 (.seq (.region [0,1,4,8] [o3 9 1,o8 10 9,
 o0 11 (.bin .rem (.t 10) (.c (.int .i64 2))),
 o0 12 (.bin .neq (.t 11) (.c (.int .i64 0))),o3 8 12]) (.cond (.t 8) (.seq (.region [4] [o0 13 (.build [(.int .u8 0),(.int .i64 0),(.string .empty),(.bool false)] [(2,1,(.c (.string ⟨#[107,105,110,100]⟩)))]),
 o2 (.store 4 (.t 4) (.t 13))]) .ret) (.seq (.region [0,1,4,14] [o3 15 1,o8 16 15,
 o0 17 (.bin .gtr (.t 16) (.c (.int .i64 131072))),o3 14 17]) (.cond (.t 14) (.seq (.region [4] [o0 18 (.build [(.int .u8 0),(.int .i64 0),(.string .empty),(.bool false)] [(2,1,(.c (.string ⟨#[105,116,101,109,115]⟩)))]),
 o2 (.store 4 (.t 4) (.t 18))]) .ret) .skip))))) (.seq (.region [0,1,4,5] [o0 5 (.mv (.c (.slice none 0 0)))]) (.seq (.seq (.region [0,1,4,5,6] [o0 6 (.mv (.c (.int .i64 0)))]) (.block 1 (.loop [0,1,4,5,6] zj7))) (.seq (.region [4] [o3 55 0,o3 56 5,o3 57 1,o8 58 57,
 o0 59 (.build [(.int .u8 0),(.string .empty),(.slice none 0 0),(.int .i64 0),(.int .i64 0)] [(0,1,(.c (.int .u8 5))),(2,1,(.t 56)),(3,1,(.t 58))]),
 o0 60 (.call .share 212 [(.t 55),(.t 59)]),
 o2 (.store 4 (.t 4) (.t 60))]) .ret)))))⟩
def zya:zab:=
 ⟨[.cell 6 (some 4)],(.seq (.region [0,4,5,6] [o0 4 (.box 2 (.t 1)),
 o0 5 (.box 2 (.t 2)),
 o0 6 (.alloc [(.int .u8 0),(.int .i64 0),(.string .empty),(.bool false)])]) (.seq (.seq (.region [0,4,5,6,12] [o6 9 2 4,o6 10 2 5,
 o0 11 (.call .view 581 [(.t 9),(.t 10)]),
 o0 12 (.un .not (.t 11))]) (.cond (.t 12) (.seq (.region [6] [o0 13 (.build [(.int .u8 0),(.int .i64 0),(.string .empty),(.bool false)] [(2,1,(.c (.string ⟨#[107,105,110,100]⟩)))]),
 o2 (.store 4 (.t 6) (.t 13))]) .ret) .skip)) (.seq (.region [0,4,5,6,7] [o3 14 0,o6 15 2 4,
 o0 16 (.call .look 213 [(.t 14),(.t 15)]),o3 7 16]) (.seq (.seq (.region [0,4,5,6,7,19] [o5 17 0 4,o4 18 17,
 o0 19 (.bin .eql (.t 18) (.c (.int .u8 5)))]) (.cond (.t 19) (.seq (.seq (.region [6,7,8] [o3 20 0,o3 21 7,o7 22 21,o5 23 2 22,o4 24 23,o6 25 2 5,
 o0 26 (.call .peek 209 [(.t 20),(.t 24),(.t 25)]),o3 8 26]) (.seq (.region [6,7,8,28] [o3 27 8,
 o0 28 (.bin .geq (.t 27) (.c (.int .i64 0)))]) (.cond (.t 28) (.seq (.region [6] [o3 29 7,o7 30 29,o5 31 2 30,o4 32 31,o3 33 8,
 o0 34 (.bin .add (.t 33) (.c (.int .i64 1))),
 o0 35 (.idxA 2 (.t 32) (.t 34)),o6 36 2 35,
 o0 37 (.build [(.int .u8 0),(.int .i64 0),(.string .empty),(.bool false)] [(0,2,(.t 36))]),
 o2 (.store 4 (.t 6) (.t 37))]) .ret) .skip))) (.seq (.region [6] [o0 38 (.build [(.int .u8 0),(.int .i64 0),(.string .empty),(.bool false)] []),
 o2 (.store 4 (.t 6) (.t 38))]) .ret)) .skip)) (.seq (.seq (.region [0,4,5,6,7,57] [o5 39 1 5,o4 40 39,
 o0 41 (.bin .lss (.t 40) (.c (.int .i64 0))),o3 42 41,
 o1 43 42 false (.fieldA 1 (.t 5)),
 o1 44 42 false (.load none (.t 43)),
 o1 45 42 false (.mv (.t 7)),
 o1 46 42 false (.nilCheck (.t 45)),
 o1 47 42 false (.fieldA 2 (.t 46)),
 o1 48 42 false (.load none (.t 47)),
 o1 49 42 false (.len (.t 48)),
 o1 50 42 false (.mv (.t 7)),
 o1 51 42 false (.nilCheck (.t 50)),
 o1 52 42 false (.fieldA 1 (.t 51)),
 o1 53 42 false (.load none (.t 52)),
 o1 54 42 false (.lenS (.t 53)),
 o1 55 42 false (.bin .add (.t 49) (.t 54)),
 o1 56 42 false (.bin .geq (.t 44) (.t 55)),
 o0 57 (.pick (.t 42) (.c (.bool true)) (.t 56))]) (.cond (.t 57) (.seq (.region [6] [o0 58 (.build [(.int .u8 0),(.int .i64 0),(.string .empty),(.bool false)] [(2,1,(.c (.string ⟨#[98,111,117,110,100,115]⟩)))]),
 o2 (.store 4 (.t 6) (.t 58))]) .ret) .skip)) (.seq (.seq (.region [0,5,6,7,61] [o5 59 0 4,o4 60 59,
 o0 61 (.bin .eql (.t 60) (.c (.int .u8 3)))]) (.cond (.t 61) (.seq (.region [6] [o3 62 0,o3 63 7,o7 64 63,o5 65 1 64,o4 66 65,o5 67 1 5,o4 68 67,o5 69 1 5,o4 70 69,
 o0 71 (.bin .add (.t 70) (.c (.int .i64 1))),
 o0 72 (.sliceS (.t 66) (some (.t 68)) (some (.t 71))),
 o0 73 (.call .share 219 [(.t 62),(.t 72)]),
 o2 (.store 4 (.t 6) (.t 73))]) .ret) .skip)) (.seq (.region [6] [o3 74 7,o7 75 74,o5 76 2 75,o4 77 76,o5 78 1 5,o4 79 78,
 o0 80 (.idxA 2 (.t 77) (.t 79)),o6 81 2 80,
 o0 82 (.build [(.int .u8 0),(.int .i64 0),(.string .empty),(.bool false)] [(0,2,(.t 81))]),
 o2 (.store 4 (.t 6) (.t 82))]) .ret)))))))⟩
def z5b:zab:=
 ⟨[.cell 8 (some 4)],(.seq (.region [0,5,6,7,8] [o0 5 (.box 2 (.t 1)),
 o0 6 (.box 2 (.t 2)),
 o0 7 (.box 2 (.t 3)),
 o0 8 (.alloc [(.int .u8 0),(.int .i64 0),(.string .empty),(.bool false)])]) (.seq (.seq (.region [0,5,6,7,8,23] [o6 15 2 5,o6 16 2 6,
 o0 17 (.call .view 581 [(.t 15),(.t 16)]),
 o0 18 (.un .not (.t 17)),o3 19 18,
 o1 20 19 false (.fieldA 0 (.t 5)),
 o1 21 19 false (.load none (.t 20)),
 o1 22 19 false (.bin .eql (.t 21) (.c (.int .u8 3))),
 o0 23 (.pick (.t 19) (.c (.bool true)) (.t 22))]) (.cond (.t 23) (.seq (.region [8] [o0 24 (.build [(.int .u8 0),(.int .i64 0),(.string .empty),(.bool false)] [(2,1,(.c (.string ⟨#[107,105,110,100]⟩)))]),
 o2 (.store 4 (.t 8) (.t 24))]) .ret) .skip)) (.seq (.region [0,5,6,7,8,9] [o3 25 0,o6 26 2 5,
 o0 27 (.call .look 213 [(.t 25),(.t 26)]),o3 9 27]) (.seq (.region [0,5,6,7,8,9,10,11,12] [o3 28 9,o7 29 28,o5 30 2 29,o4 31 30,o8 32 31,o5 33 1 6,o4 34 33,o3 10 32,
 o0 11 (.mv (.c (.int .i64 1))),o3 12 34]) (.seq (.seq (.region [0,6,7,8,9,10,11,12,37] [o5 35 0 5,o4 36 35,
 o0 37 (.bin .eql (.t 36) (.c (.int .u8 5)))]) (.cond (.t 37) (.seq (.region [0,6,7,8,9,10,11,12] [o3 38 10,
 o0 11 (.mv (.c (.int .i64 2))),o3 12 38]) (.seq (.region [0,6,7,8,9,10,11,12,13] [o3 39 0,o3 40 9,o7 41 40,o5 42 2 41,o4 43 42,o6 44 2 6,
 o0 45 (.call .peek 209 [(.t 39),(.t 43),(.t 44)]),o3 13 45]) (.seq (.region [0,6,7,8,9,10,11,12,13,47] [o3 46 13,
 o0 47 (.bin .geq (.t 46) (.c (.int .i64 0)))]) (.cond (.t 47) (.region [0,6,7,8,9,10,11,12] [o3 48 13,
 o0 49 (.bin .add (.t 48) (.c (.int .i64 1))),o3 12 49]) .skip)))) .skip)) (.seq (.block 0 (.seq (.region [0,6,7,8,9,10,11,12,50] [o3 51 12,
 o0 52 (.bin .lss (.t 51) (.c (.int .i64 0))),o3 53 52,
 o1 54 53 false (.mv (.t 12)),
 o1 55 53 false (.mv (.t 10)),
 o1 56 53 false (.bin .gtr (.t 54) (.t 55)),
 o0 57 (.pick (.t 53) (.c (.bool true)) (.t 56)),o3 50 57]) (.cond (.t 50) (.seq (.region [8] [o0 58 (.build [(.int .u8 0),(.int .i64 0),(.string .empty),(.bool false)] [(2,1,(.c (.string ⟨#[98,111,117,110,100,115]⟩)))]),
 o2 (.store 4 (.t 8) (.t 58))]) .ret) (.seq (.region [0,6,7,8,9,10,11,12,59] [o3 60 12,o3 61 10,
 o0 62 (.bin .lss (.t 60) (.t 61)),o3 59 62]) (.cond (.t 59) (.seq (.region [8] [o3 63 9,o7 64 63,o5 65 2 64,o4 66 65,o3 67 12,o6 68 2 7,
 o0 69 (.idxA 2 (.t 66) (.t 67)),
 o2 (.store 2 (.t 69) (.t 68))]) (.seq (.region [8] [o0 70 (.build [(.int .u8 0),(.int .i64 0),(.string .empty),(.bool false)] []),
 o2 (.store 4 (.t 8) (.t 70))]) .ret)) (.seq (.region [0,6,7,8,9,10,11,71] [o3 72 10,o3 73 11,
 o0 74 (.bin .mul (.t 73) (.c (.int .i64 65536))),
 o0 75 (.bin .geq (.t 72) (.t 74)),o3 71 75]) (.cond (.t 71) (.seq (.region [8] [o0 76 (.build [(.int .u8 0),(.int .i64 0),(.string .empty),(.bool false)] [(2,1,(.c (.string ⟨#[105,116,101,109,115]⟩)))]),
 o2 (.store 4 (.t 8) (.t 76))]) .ret) .skip))))))) (.seq (.seq (.region [0,6,7,8,9,10,11,14] [o3 77 9,o7 78 77,o5 79 3 78,o4 80 79,o3 14 80]) (.seq (.region [0,6,7,8,9,11,14,85] [o3 81 14,o3 82 10,o3 83 11,
 o0 84 (.bin .add (.t 82) (.t 83)),
 o0 85 (.bin .lss (.t 81) (.t 84))]) (.cond (.t 85) (.seq (.region [0,6,7,8,9,11,14] [o3 86 11,
 o0 87 (.bin .mul (.c (.int .i64 4)) (.t 86)),o3 88 14,
 o0 89 (.bin .mul (.c (.int .i64 2)) (.t 88)),
 o0 90 (.minmax false (.t 87) (.t 89)),o3 14 90]) (.seq (.seq (.region [6,7,8,9,11,14,96] [o3 91 0,o3 92 14,
 o0 93 (.bin .mul (.c (.int .i64 2)) (.t 92)),
 o0 94 (.bin .add (.c (.int .i64 1)) (.t 93)),
 o0 95 (.call .share 218 [(.t 91),(.t 94)]),
 o0 96 (.un .not (.t 95))]) (.cond (.t 96) (.seq (.region [8] [o0 97 (.build [(.int .u8 0),(.int .i64 0),(.string .empty),(.bool false)] [(3,1,(.c (.bool true)))]),
 o2 (.store 4 (.t 8) (.t 97))]) .ret) .skip)) (.region [6,7,8,9,11] [o3 98 9,o3 99 14,o7 100 98,o5 101 3 100,
 o2 (.store 1 (.t 101) (.t 99))]))) .skip))) (.seq (.seq (.region [6,7,8,9,103] [o3 102 11,
 o0 103 (.bin .eql (.t 102) (.c (.int .i64 2)))]) (.cond (.t 103) (.region [7,8,9] [o3 104 9,o3 105 9,o7 106 105,o5 107 2 106,o4 108 107,o6 109 2 6,
 o0 110 (.buildSlice 2 [(.int .u8 0),(.int .i64 0)] 1 [(0,2,(.t 109))]),
 o0 111 (.append 2 16 (.t 108) (.t 110)),o7 112 104,o5 113 2 112,
 o2 (.store 1 (.t 113) (.t 111))]) .skip)) (.seq (.region [8] [o3 114 9,o3 115 9,o7 116 115,o5 117 2 116,o4 118 117,o6 119 2 7,
 o0 120 (.buildSlice 2 [(.int .u8 0),(.int .i64 0)] 1 [(0,2,(.t 119))]),
 o0 121 (.append 2 16 (.t 118) (.t 120)),o7 122 114,o5 123 2 122,
 o2 (.store 1 (.t 123) (.t 121))]) (.seq (.region [8] [o0 124 (.build [(.int .u8 0),(.int .i64 0),(.string .empty),(.bool false)] []),
 o2 (.store 4 (.t 8) (.t 124))]) .ret))))))))))⟩
def zqe:XCode:=
 (.seq (.seq (.region [0,1,5,14] [o3 11 5,o3 12 0,o8 13 12,
 o0 14 (.bin .lss (.t 11) (.t 13))]) (.cond (.t 14) .skip (.exit 0))) (.seq (.block 1 (.seq (.region [0,1,5,25] [o3 17 0,o3 18 5,
 o0 19 (.idxA 2 (.t 17) (.t 18)),o6 20 2 19,o3 21 1,o3 22 5,
 o0 23 (.idxA 2 (.t 21) (.t 22)),o6 24 2 23,
 o0 25 (.eqCells true [0,0] (.t 20) (.t 24))]) (.cond (.t 25) (.seq (.region [4] [o0 4 (.mv (.c (.bool false)))]) .ret) .skip))) (.region [0,1,5] [o3 15 5,
 o0 16 (.bin .add (.t 15) (.c (.int .i64 1))),o3 5 16])))
def zka:zab:=
 z3z zqe
def znc:zab:=
 ⟨[.tmp 4],(.seq (.region [0,1] [o0 4 (.mv (.c (.bool false)))]) (.seq (.seq (.region [0,1,15] [o3 5 0,o7 6 5,o5 7 2 6,o4 8 7,o3 9 1,
 o0 10 (.bin .add (.t 8) (.t 9)),o3 11 0,o7 12 11,o5 13 1 12,o4 14 13,
 o0 15 (.bin .gtr (.t 10) (.t 14))]) (.cond (.t 15) (.seq (.region [4] [o0 4 (.mv (.c (.bool false)))]) .ret) .skip)) (.seq (.region [] [o3 16 0,o7 17 16,o5 18 2 17,o4 19 18,o3 20 1,
 o0 21 (.bin .add (.t 19) (.t 20)),o7 22 16,o5 23 2 22,
 o2 (.store 1 (.t 23) (.t 21))]) (.seq (.region [4] [o0 4 (.mv (.c (.bool true)))]) .ret))))⟩
def zj8:zab:=
 ⟨[.tmp 6],(.seq (.region [0,4,5] [o0 4 (.box 2 (.t 1)),
 o0 5 (.box 2 (.t 2)),
 o0 6 (.mv (.c (.bool false)))]) (.seq (.block 0 (.seq (.region [0,4,5,7] [o5 8 0 4,o4 9 8,o5 10 0 5,o4 11 10,
 o0 12 (.bin .neq (.t 9) (.t 11)),o3 7 12]) (.cond (.t 7) (.seq (.region [6] [o0 6 (.mv (.c (.bool false)))]) .ret) (.seq (.region [0,4,5,13] [o5 14 0 4,o4 15 14,
 o0 16 (.bin .eql (.t 15) (.c (.int .u8 3))),o3 13 16]) (.cond (.t 13) (.seq (.region [6] [o3 17 0,o6 18 2 4,
 o0 19 (.call .look 213 [(.t 17),(.t 18)]),o7 20 19,o5 21 1 20,o4 22 21,o3 23 0,o6 24 2 5,
 o0 25 (.call .look 213 [(.t 23),(.t 24)]),o7 26 25,o5 27 1 26,o4 28 27,
 o0 29 (.bin .eql (.t 22) (.t 28)),o3 6 29]) .ret) .skip))))) (.seq (.region [6] [o5 30 0 4,o4 31 30,
 o0 32 (.bin .eql (.t 31) (.c (.int .u8 0))),o3 33 32,
 o1 34 33 false (.fieldA 1 (.t 4)),
 o1 35 33 false (.load none (.t 34)),
 o1 36 33 false (.fieldA 1 (.t 5)),
 o1 37 33 false (.load none (.t 36)),
 o1 38 33 false (.bin .eql (.t 35) (.t 37)),
 o0 39 (.pick (.t 33) (.c (.bool true)) (.t 38)),o3 6 39]) .ret)))⟩
def yjb:XCode:=
 (.seq (.region [0,1,2,6,10,11,12,13] [o0 13 (.bin .lss (.t 12) (.t 11))]) (.seq (.cond (.t 13) .skip (.exit 0)) (.seq (.block 1 (.seq (.region [0,1,2,6,9,10,11,12] [o0 14 (.idxA 2 (.t 10) (.t 12)),o6 15 2 14,
 o0 9 (.alloc [(.int .u8 0),.nilFunc]),
 o2 (.store 2 (.t 9) (.t 15))]) (.seq (.region [0,1,2,6,9,10,11,12,19] [o5 16 0 9,o4 17 16,o3 18 0,
 o0 19 (.bin .eql (.t 17) (.t 18))]) (.cond (.t 19) (.seq (.region [6,7] [o5 20 1 9,o4 21 20,o3 22 1,o3 23 2,
 o0 24 (.callV (.t 21) [(.t 22),(.t 23)]),
 o2 (.store 2 (.t 6) (.t 24)),
 o0 7 (.mv (.c (.string .empty)))]) .ret) .skip)))) (.region [0,1,2,6,10,11,12] [o0 25 (.bin .add (.t 12) (.c (.int .i64 1))),o3 12 25]))))
def zyd:zab:=
 ⟨[.cell 6 (some 2),.tmp 7],(.seq (.region [0,1,2,6] [o0 6 (.alloc [(.int .u8 0),(.int .i64 0)]),
 o0 7 (.mv (.c (.string .empty)))]) (.seq (.seq (.region [0,1,2,6,10,11,12] [o0 10 (.call .own 582 []),o8 11 10,
 o0 12 (.mv (.c (.int .i64 0)))]) (.block 0 (.loop [0,1,2,6,10,11,12] yjb))) (.seq (.block 2 (.seq (.region [0,1,2,6,26] [o3 27 0,
 o0 28 (.bin .neq (.t 27) (.c (.int .u8 4))),o3 29 28,
 o1 30 29 true (.mv (.t 0)),
 o1 31 29 true (.bin .neq (.t 30) (.c (.int .u8 5))),
 o0 32 (.pick (.t 29) (.t 31) (.c (.bool false))),o3 26 32]) (.cond (.t 26) (.seq (.region [6,7] [o0 33 (.build [(.int .u8 0),(.int .i64 0)] []),
 o2 (.store 2 (.t 6) (.t 33)),
 o0 7 (.mv (.c (.string ⟨#[107,105,110,100]⟩)))]) .ret) (.seq (.region [0,1,2,6,34] [o3 35 2,
 o0 36 (.bin .eql (.t 35) (.c (.int .i64 0))),o3 34 36]) (.cond (.t 34) (.seq (.region [6,7] [o0 37 (.build [(.int .u8 0),(.int .i64 0)] []),
 o2 (.store 2 (.t 6) (.t 37)),
 o0 7 (.mv (.c (.string ⟨#[122,101,114,111]⟩)))]) .ret) (.seq (.region [0,1,2,6,38] [o3 39 2,
 o0 40 (.bin .eql (.t 39) (.c (.int .i64 (-1)))),o3 41 40,
 o1 42 41 true (.mv (.t 0)),
 o1 43 41 true (.bin .eql (.t 42) (.c (.int .u8 4))),
 o0 44 (.pick (.t 41) (.t 43) (.c (.bool false))),o3 38 44]) (.cond (.t 38) (.seq (.region [6,7] [o3 45 1,
 o0 46 (.un .neg (.t 45)),
 o0 47 (.call .view 589 [.t 46]),
 o2 (.store 2 (.t 6) (.t 47)),
 o0 7 (.mv (.c (.string .empty)))]) .ret) (.seq (.region [0,1,2,6,48] [o3 49 2,
 o0 50 (.bin .eql (.t 49) (.c (.int .i64 (-1)))),o3 48 50]) (.cond (.t 48) (.seq (.region [6,7] [o0 51 (.call .view 589 [(.c (.int .i64 0))]),
 o2 (.store 2 (.t 6) (.t 51)),
 o0 7 (.mv (.c (.string .empty)))]) .ret) (.seq (.region [1,2,6,52] [o3 53 0,
 o0 54 (.bin .eql (.t 53) (.c (.int .u8 4))),o3 52 54]) (.cond (.t 52) (.seq (.region [6,7] [o3 55 1,o3 56 2,
 o0 57 (.bin .quo (.t 55) (.t 56)),
 o0 58 (.call .view 589 [.t 57]),
 o2 (.store 2 (.t 6) (.t 58)),
 o0 7 (.mv (.c (.string .empty)))]) .ret) .skip))))))))))) (.seq (.region [6,7] [o3 59 1,o3 60 2,
 o0 61 (.bin .rem (.t 59) (.t 60)),
 o0 62 (.call .view 589 [.t 61]),
 o2 (.store 2 (.t 6) (.t 62)),
 o0 7 (.mv (.c (.string .empty)))]) .ret))))⟩
def znb:zab:=
 ⟨[.tmp 4],(.seq (.region [0,3] [o0 3 (.box 2 (.t 1)),
 o0 4 (.mv (.c (.pointer none)))]) (.seq (.region [4] [o3 5 0,o7 6 5,o5 7 0 6,o4 8 7,o5 9 1 3,o4 10 9,
 o0 11 (.bin .sub (.t 10) (.c (.int .i64 1))),
 o0 12 (.idxA 5 (.t 8) (.t 11)),o3 4 12]) .ret))⟩
def zg0:XCode:=
 (.seq (.seq (.region [0,1,5,7,11] [o3 8 7,o3 9 1,o8 10 9,
 o0 11 (.bin .lss (.t 8) (.t 10))]) (.cond (.t 11) .skip (.exit 0))) (.seq (.block 1 (.seq (.region [0,1,5,7,20] [o3 14 0,o3 15 1,o3 16 7,
 o0 17 (.idxA 2 (.t 15) (.t 16)),o6 18 2 17,o6 19 2 5,
 o0 20 (.call .peek 216 [(.t 14),(.t 18),(.t 19)])]) (.cond (.t 20) (.seq (.region [6] [o3 21 7,o3 6 21]) .ret) .skip))) (.region [0,1,5,7] [o3 12 7,
 o0 13 (.bin .add (.t 12) (.c (.int .i64 2))),o3 7 13])))
def zif:zab:=
 ⟨[.tmp 6],(.seq (.region [0,1,5] [o0 5 (.box 2 (.t 2)),
 o0 6 (.mv (.c (.int .i64 0)))]) (.seq (.seq (.region [0,1,5,7] [o0 7 (.mv (.c (.int .i64 0)))]) (.block 0 (.loop [0,1,5,7] zg0))) (.seq (.region [6] [o0 6 (.mv (.c (.int .i64 (-1))))]) .ret)))⟩
def zud:zab:=
 ⟨[.tmp 4],(.seq (.region [2,3] [o0 2 (.box 2 (.t 0)),
 o0 3 (.box 2 (.t 1)),
 o0 4 (.mv (.c (.bool false)))]) (.seq (.region [4] [o5 5 0 2,o4 6 5,
 o0 7 (.bin .eql (.t 6) (.c (.int .u8 5))),o3 8 7,
 o1 9 8 false (.fieldA 0 (.t 2)),
 o1 10 8 false (.load none (.t 9)),
 o1 11 8 false (.bin .eql (.t 10) (.c (.int .u8 4))),
 o1 12 8 false (.mv (.t 11)),
 o1 13 12 false (.fieldA 0 (.t 2)),
 o1 14 12 false (.load none (.t 13)),
 o1 15 12 false (.bin .eql (.t 14) (.c (.int .u8 3))),
 o1 16 8 false (.pick (.t 12) (.c (.bool true)) (.t 15)),
 o1 17 8 false (.mv (.t 16)),
 o1 18 17 true (.fieldA 0 (.t 3)),
 o1 19 17 true (.load none (.t 18)),
 o1 20 17 true (.bin .eql (.t 19) (.c (.int .u8 2))),
 o1 21 8 false (.pick (.t 17) (.t 20) (.c (.bool false))),
 o0 22 (.pick (.t 8) (.c (.bool true)) (.t 21)),o3 4 22]) .ret))⟩
def zye:zab:=
 ⟨[.tmp 0],(.seq (.region [] [o0 0 (.mv (.c (.slice none 0 0)))]) (.seq (.region [0] [o0 1 (.build [(.int .u8 0),.nilFunc] [(0,1,(.c (.int .u8 1))),(1,1,(.f 583))]),
 o0 2 (.build [(.int .u8 0),.nilFunc] [(0,1,(.c (.int .u8 2))),(1,1,(.f 584))]),
 o0 3 (.build [(.int .u8 0),.nilFunc] [(0,1,(.c (.int .u8 3))),(1,1,(.f 585))]),
 o0 4 (.build [(.int .u8 0),.nilFunc] [(0,1,(.c (.int .u8 6))),(1,1,(.f 586))]),
 o0 5 (.build [(.int .u8 0),.nilFunc] [(0,1,(.c (.int .u8 7))),(1,1,(.f 587))]),
 o0 6 (.buildSlice 2 [(.int .u8 0),.nilFunc] 5 [(0,2,(.t 1)),(2,2,(.t 2)),(4,2,(.t 3)),(6,2,(.t 4)),(8,2,(.t 5))]),o3 0 6]) .ret))⟩
def zyl:zab:=
 ⟨[.cell 2 (some 2)],(.seq (.region [0,2] [o0 2 (.alloc [(.int .u8 0),(.int .i64 0)])]) (.seq (.region [2] [o3 3 0,
 o0 4 (.build [(.int .u8 0),(.int .i64 0)] [(0,1,(.c (.int .u8 2))),(1,1,(.t 3))]),
 o2 (.store 2 (.t 2) (.t 4))]) .ret))⟩
def zyf:zab:=
 ⟨[.cell 4 (some 2)],(.seq (.region [0,1,4] [o0 4 (.alloc [(.int .u8 0),(.int .i64 0)])]) (.seq (.region [4] [o3 5 0,o3 6 1,
 o0 7 (.bin .add (.t 5) (.t 6)),
 o0 8 (.call .view 589 [.t 7]),
 o2 (.store 2 (.t 4) (.t 8))]) .ret))⟩
def zyg:zab:=
 ⟨[.cell 4 (some 2)],(.seq (.region [0,1,4] [o0 4 (.alloc [(.int .u8 0),(.int .i64 0)])]) (.seq (.region [4] [o3 5 0,o3 6 1,
 o0 7 (.bin .sub (.t 5) (.t 6)),
 o0 8 (.call .view 589 [.t 7]),
 o2 (.store 2 (.t 4) (.t 8))]) .ret))⟩
def zyh:zab:=
 ⟨[.cell 4 (some 2)],(.seq (.region [0,1,4] [o0 4 (.alloc [(.int .u8 0),(.int .i64 0)])]) (.seq (.region [4] [o3 5 0,o3 6 1,
 o0 7 (.bin .mul (.t 5) (.t 6)),
 o0 8 (.call .view 589 [.t 7]),
 o2 (.store 2 (.t 4) (.t 8))]) .ret))⟩
def zyi:zab:=
 ⟨[.cell 4 (some 2)],(.seq (.region [0,1,4] [o0 4 (.alloc [(.int .u8 0),(.int .i64 0)])]) (.seq (.region [4] [o3 5 0,o3 6 1,
 o0 7 (.bin .lss (.t 5) (.t 6)),
 o0 8 (.call .view 588 [.t 7]),
 o2 (.store 2 (.t 4) (.t 8))]) .ret))⟩
def zyj:zab:=
 ⟨[.cell 4 (some 2)],(.seq (.region [0,1,4] [o0 4 (.alloc [(.int .u8 0),(.int .i64 0)])]) (.seq (.region [4] [o3 5 0,o3 6 1,
 o0 7 (.bin .leq (.t 5) (.t 6)),
 o0 8 (.call .view 588 [.t 7]),
 o2 (.store 2 (.t 4) (.t 8))]) .ret))⟩
set_option linter.unusedVariables false
def zf1(c:Nat):XCode:=
  (.seq (.region [3,8,9,10] [⟨(some 10),.bin .lss (.t 9) (.t 8),none⟩])
  (.seq (.cond (.t 10)
    .skip
    (.exit 0))
  (.seq (.block 1 (.seq (.region [3,4,8,9] [⟨(some 11),.mv (.t 9),none⟩,
    ⟨(some 4),.mv (.t 11),none⟩])
  (.region [3,8,9] [⟨(some 12),.mv (.t 3),none⟩,
    ⟨(some 13),.mv (.t 4),none⟩,
    ⟨(some 14),.mv (.t 3),none⟩,
    ⟨(some 15),.mv (.t 4),none⟩,
    ⟨(some 16),.idxA 5 (.t 14) (.t 15),none⟩,
    ⟨(some 17),.fieldA 2 (.t 16),none⟩,
    ⟨(some 18),.load none (.t 17),none⟩,
    ⟨(some 19),.call .look 742 [(.t 18)],none⟩,
    ⟨(some 20),.call .share 740 [(.t 19)],none⟩,
    ⟨(some 21),.idxA 5 (.t 12) (.t 13),none⟩,
    ⟨(some 22),.fieldA 2 (.t 21),none⟩,
    ⟨none,.storeF c 1 (.t 22) (.t 20),none⟩])))
  (.region [3,8,9] [⟨(some 23),.bin .add (.t 9) (.c (.int .i64 1)),none⟩,
    ⟨(some 9),.mv (.t 23),none⟩]))))
def zue(c:Nat):zab:=⟨[.tmp 2],
  (.seq (.region [0] [⟨(some 2),.mv (.c (.slice none 0 0)),none⟩])
  (.seq (.region [3] [⟨(some 5),.mv (.t 0),none⟩,
    ⟨(some 6),.call .share 743 [(.t 5)],none⟩,
    ⟨(some 3),.mv (.t 6),none⟩])
  (.seq (.seq (.region [3,8,9] [⟨(some 7),.mv (.t 3),none⟩,
    ⟨(some 8),.len (.t 7),none⟩,
    ⟨(some 9),.mv (.c (.int .i64 0)),none⟩])
  (.block 0 (.loop [3,8,9] (zf1 c))))
  (.seq (.region [2] [⟨(some 24),.mv (.t 3),none⟩,
    ⟨(some 25),.call .share 741 [(.t 24)],none⟩,
    ⟨(some 2),.mv (.t 25),none⟩])
  .ret))))⟩
def z5c:zab:=
 ⟨[.cell 8 (some 5)],(.seq (.region [1,2,3,4,8] [o0 4 (.box 1 (.t 0)),
 o0 8 (.alloc [(.slice none 0 0),(.int .u8 0),(.int .i64 0),(.string .empty),(.int .i64 0)])]) (.seq (.region [1,2,3,4,8,9] [o4 13 4,
 o0 14 (.call .own 643 [.t 13]),o3 9 14]) (.seq (.seq (.region [1,2,3,8,9,17] [o3 15 3,
 o0 16 (.mkClo 641 [.t 4]),
 o0 17 (.call .share 749 [(.t 15),(.t 16)])]) (.cond (.t 17) (.seq (.region [8] [o3 18 9,
 o0 19 (.build [(.slice none 0 0),(.int .u8 0),(.int .i64 0),(.string .empty),(.int .i64 0)] [(0,1,(.t 18)),(3,1,(.c (.string ⟨#[107,105,110,100]⟩)))]),
 o2 (.store 5 (.t 8) (.t 19))]) .ret) .skip)) (.seq (.region [1,2,3,8,9,10] [o3 20 9,
 o0 21 (.build [(.slice none 0 0),(.int .i64 0),(.int .i64 0)] [(0,1,(.t 20)),(1,1,(.c (.int .i64 1152921504606846976)))]),
 o0 22 (.box 3 (.t 21)),o3 10 22]) (.seq (.region [1,2,3,8,10,11] [o3 23 9,
 o0 24 (.call .own 642 [.t 23]),o3 11 24]) (.seq (.region [8,10,11,12] [o3 25 10,o3 26 1,o3 27 2,o3 28 3,
 o0 29 (.build [(.int .u8 0),(.int .i64 0),(.slice none 0 0),(.slice none 0 0)] [(0,1,(.t 26)),(1,1,(.t 27)),(2,1,(.t 28))]),
 o0 30 (.call .share 206 [(.t 25),(.t 29)]),
 o0 12 (.alloc [(.int .u8 0),(.int .i64 0),(.string .empty),(.bool false)]),
 o2 (.store 4 (.t 12) (.t 30))]) (.seq (.region [8] [o3 31 10,o7 32 31,o5 33 0 32,o4 34 33,
 o0 35 (.call .look 643 [.t 34]),o5 36 0 12,o6 37 2 36,o5 38 2 12,o4 39 38,o3 40 10,o7 41 40,o5 42 0 41,o4 43 42,o3 44 11,
 o0 45 (.call .view 639 [(.t 43),(.t 44)]),
 o0 46 (.build [(.slice none 0 0),(.int .u8 0),(.int .i64 0),(.string .empty),(.int .i64 0)] [(0,1,(.t 35)),(1,2,(.t 37)),(3,1,(.t 39)),(4,1,(.t 45))]),
 o2 (.store 5 (.t 8) (.t 46))]) .ret)))))))⟩
def zkd:zab:=
 ⟨[.tmp 3],(.seq (.region [1,2] [o0 2 (.box 2 (.t 0)),
 o0 3 (.mv (.c (.bool false)))]) (.seq (.region [3] [o4 4 1,o6 5 2 2,
 o0 6 (.call .view 646 [(.t 4),(.t 5)]),
 o0 7 (.un .not (.t 6)),o3 3 7]) .ret))⟩
def zyc:zab:=
 ⟨[.tmp 2],(.seq (.region [0] [o0 2 (.mv (.c (.pointer none)))]) (.seq (.region [2] [o3 3 0,
 o0 4 (.call .own 377 [.t 3]),
 o0 5 (.build [(.slice none 0 0)] [(0,1,(.t 4))]),
 o0 6 (.box 1 (.t 5)),o3 2 6]) .ret))⟩
def zqi:zab:=
 ⟨[.tmp 10],(.seq (.region [1,3,4,5,7] [o0 5 (.box 5 (.t 0)),
 o0 7 (.box 4 (.t 2)),
 o0 10 (.mv (.c (.bool false)))]) (.seq (.region [10] [o5 11 0 5,o4 12 11,o3 13 1,o7 14 13,o5 15 0 14,o4 16 15,
 o0 17 (.call .view 355 [(.t 12),(.t 16)]),o3 18 17,
 o1 19 18 true (.fieldA 1 (.t 5)),
 o1 20 18 true (.load (some 2) (.t 19)),
 o1 21 18 true (.fieldA 0 (.t 7)),
 o1 22 18 true (.load (some 2) (.t 21)),
 o1 23 18 true (.eqCells false [0,0] (.t 20) (.t 22)),
 o0 24 (.pick (.t 18) (.t 23) (.c (.bool false))),o3 25 24,
 o1 26 25 true (.fieldA 3 (.t 5)),
 o1 27 25 true (.load none (.t 26)),
 o1 28 25 true (.fieldA 2 (.t 7)),
 o1 29 25 true (.load none (.t 28)),
 o1 30 25 true (.bin .eql (.t 27) (.t 29)),
 o0 31 (.pick (.t 25) (.t 30) (.c (.bool false))),o3 32 31,
 o1 33 32 true (.fieldA 4 (.t 5)),
 o1 34 32 true (.load none (.t 33)),
 o1 35 32 true (.load (some 4) (.t 7)),
 o1 36 32 true (.call .view 492 [.t 35]),
 o1 37 32 true (.bin .eql (.t 34) (.t 36)),
 o0 38 (.pick (.t 32) (.t 37) (.c (.bool false))),o3 39 38,
 o1 40 39 true (.mv (.t 3)),
 o1 41 39 true (.mv (.t 4)),
 o1 42 39 true (.call .view 334 [(.t 40),(.t 41)]),
 o0 43 (.pick (.t 39) (.t 42) (.c (.bool false))),o3 10 43]) .ret))⟩
def zj5:zab:=
 ⟨[.cell 6 (some 4)],(.seq (.region [0,1,2,6] [o0 6 (.alloc [(.int .u8 0),(.int .i64 0),(.string .empty),(.int .i64 0)])]) (.seq (.seq (.region [0,1,2,6,9] [o3 7 1,
 o0 8 (.lenS (.t 7)),
 o0 9 (.bin .gtr (.t 8) (.c (.int .i64 4096)))]) (.cond (.t 9) (.seq (.region [6] [o0 10 (.call .view 562 [(.c (.string ⟨#[103,114,101,97,116]⟩))]),
 o2 (.store 4 (.t 6) (.t 10))]) .ret) .skip)) (.seq (.region [6] [o3 11 0,o3 12 1,
 o0 13 (.build [(.int .u8 0),(.string .empty),(.slice none 0 0),(.int .i64 0),(.int .i64 0)] [(0,1,(.c (.int .u8 3))),(1,1,(.t 12))]),o3 14 2,
 o0 15 (.call .share 165 [(.t 11),(.t 13),(.t 14)]),
 o2 (.store 4 (.t 6) (.t 15))]) .ret)))⟩
def zp6:zab:=
 ⟨[.cell 6 (some 4)],(.seq (.region [0,1,2,6] [o0 6 (.alloc [(.int .u8 0),(.int .i64 0),(.string .empty),(.int .i64 0)])]) (.seq (.seq (.region [0,1,2,6,10] [o3 7 0,o3 8 1,
 o0 9 (.call .view 152 [(.t 7),(.t 8)]),
 o0 10 (.un .not (.t 9))]) (.cond (.t 10) (.seq (.region [6] [o0 11 (.call .view 562 [(.c (.string ⟨#[107,105,110,100]⟩))]),
 o2 (.store 4 (.t 6) (.t 11))]) .ret) .skip)) (.seq (.seq (.region [0,1,2,6,14] [o3 12 1,o8 13 12,
 o0 14 (.bin .gtr (.t 13) (.c (.int .i64 65536)))]) (.cond (.t 14) (.seq (.region [6] [o0 15 (.call .view 562 [(.c (.string ⟨#[105,116,101,109,115]⟩))]),
 o2 (.store 4 (.t 6) (.t 15))]) .ret) .skip)) (.seq (.region [6] [o3 16 0,o3 17 1,
 o0 18 (.append 2 16 (.c (.slice none 0 0)) (.t 17)),o3 19 1,o8 20 19,
 o0 21 (.build [(.int .u8 0),(.string .empty),(.slice none 0 0),(.int .i64 0),(.int .i64 0)] [(0,1,(.c (.int .u8 4))),(2,1,(.t 18)),(3,1,(.t 20))]),o3 22 2,
 o0 23 (.call .share 165 [(.t 16),(.t 21),(.t 22)]),
 o2 (.store 4 (.t 6) (.t 23))]) .ret))))⟩
def zj4:XCode:=
 (.seq (.seq (.region [0,1,2,6,7,8,28] [o3 25 8,o3 26 1,o8 27 26,
 o0 28 (.bin .lss (.t 25) (.t 27))]) (.cond (.t 28) .skip (.exit 0))) (.seq (.block 1 (.seq (.region [0,1,2,6,7,8,9] [o3 31 0,o3 32 7,o3 33 1,o3 34 8,
 o0 35 (.idxA 2 (.t 33) (.t 34)),o6 36 2 35,
 o0 37 (.call .view 164 [(.t 31),(.t 32),(.t 36)]),o3 9 37]) (.seq (.region [0,1,2,6,7,8,9,39] [o3 38 9,
 o0 39 (.bin .lss (.t 38) (.c (.int .i64 0)))]) (.cond (.t 39) (.region [0,1,2,6,7,8] [o3 40 7,o3 41 1,o3 42 8,
 o0 43 (.idxA 2 (.t 41) (.t 42)),o6 44 2 43,o3 45 1,o3 46 8,
 o0 47 (.bin .add (.t 46) (.c (.int .i64 1))),
 o0 48 (.idxA 2 (.t 45) (.t 47)),o6 49 2 48,
 o0 50 (.buildSlice 2 [(.int .u8 0),(.int .i64 0)] 2 [(0,2,(.t 44)),(2,2,(.t 49))]),
 o0 51 (.append 2 16 (.t 40) (.t 50)),o3 7 51]) (.region [0,1,2,6,7,8] [o3 52 7,o3 53 9,
 o0 54 (.bin .add (.t 53) (.c (.int .i64 1))),o3 55 1,o3 56 8,
 o0 57 (.bin .add (.t 56) (.c (.int .i64 1))),
 o0 58 (.idxA 2 (.t 55) (.t 57)),o6 59 2 58,
 o0 60 (.idxA 2 (.t 52) (.t 54)),
 o2 (.store 2 (.t 60) (.t 59))]))))) (.region [0,1,2,6,7,8] [o3 29 8,
 o0 30 (.bin .add (.t 29) (.c (.int .i64 2))),o3 8 30])))
def zp7:zab:=
 ⟨[.cell 6 (some 4)],(.seq (.region [0,1,2,6] [o0 6 (.alloc [(.int .u8 0),(.int .i64 0),(.string .empty),(.int .i64 0)])]) (.seq (.seq (.region [0,1,2,6,19] [o3 10 0,o3 11 1,
 o0 12 (.call .view 152 [(.t 10),(.t 11)]),
 o0 13 (.un .not (.t 12)),o3 14 13,
 o1 15 14 false (.mv (.t 1)),
 o1 16 14 false (.len (.t 15)),
 o1 17 14 false (.bin .rem (.t 16) (.c (.int .i64 2))),
 o1 18 14 false (.bin .neq (.t 17) (.c (.int .i64 0))),
 o0 19 (.pick (.t 14) (.c (.bool true)) (.t 18))]) (.cond (.t 19) (.seq (.region [6] [o0 20 (.call .view 562 [(.c (.string ⟨#[107,105,110,100]⟩))]),
 o2 (.store 4 (.t 6) (.t 20))]) .ret) .skip)) (.seq (.seq (.region [0,1,2,6,23] [o3 21 1,o8 22 21,
 o0 23 (.bin .gtr (.t 22) (.c (.int .i64 131072)))]) (.cond (.t 23) (.seq (.region [6] [o0 24 (.call .view 562 [(.c (.string ⟨#[105,116,101,109,115]⟩))]),
 o2 (.store 4 (.t 6) (.t 24))]) .ret) .skip)) (.seq (.region [0,1,2,6,7] [o0 7 (.mv (.c (.slice none 0 0)))]) (.seq (.seq (.region [0,1,2,6,7,8] [o0 8 (.mv (.c (.int .i64 0)))]) (.block 0 (.loop [0,1,2,6,7,8] zj4))) (.seq (.region [6] [o3 61 0,o3 62 7,o3 63 1,o8 64 63,
 o0 65 (.build [(.int .u8 0),(.string .empty),(.slice none 0 0),(.int .i64 0),(.int .i64 0)] [(0,1,(.c (.int .u8 5))),(2,1,(.t 62)),(3,1,(.t 64))]),o3 66 2,
 o0 67 (.call .share 165 [(.t 61),(.t 65),(.t 66)]),
 o2 (.store 4 (.t 6) (.t 67))]) .ret))))))⟩
def x638:zab:=
 ⟨[.cell 4 (some 5)],(.seq (.region [0,1,4] [o0 4 (.alloc [(.slice none 0 0),(.int .u8 0),(.int .i64 0),(.string .empty),(.int .i64 0)])]) (.seq (.region [1,4,5] [o3 8 0,
 o0 9 (.call .look 643 [.t 8]),
 o0 10 (.build [(.slice none 0 0),(.int .i64 0),(.int .i64 0)] [(0,1,(.t 9)),(1,1,(.c (.int .i64 1152921504606846976)))]),
 o0 11 (.box 3 (.t 10)),o3 5 11]) (.seq (.region [4,5,6] [o3 12 5,o3 13 1,
 o0 14 (.build [(.int .u8 0),(.int .i64 0),(.string .empty)] [(0,1,(.c (.int .u8 3))),(2,1,(.t 13))]),
 o0 15 (.buildSlice 3 [(.int .u8 0),(.int .i64 0),(.string .empty)] 1 [(0,3,(.t 14))]),
 o0 16 (.build [(.int .u8 0),(.int .i64 0),(.slice none 0 0),(.slice none 0 0)] [(0,1,(.c (.int .u8 1))),(3,1,(.t 15))]),
 o0 17 (.call .share 206 [(.t 12),(.t 16)]),
 o0 6 (.alloc [(.int .u8 0),(.int .i64 0),(.string .empty),(.bool false)]),
 o2 (.store 4 (.t 6) (.t 17))]) (.seq (.region [4,5,6,7] [o3 18 5,o7 19 18,o5 20 0 19,o4 21 20,
 o0 22 (.call .look 643 [.t 21]),o5 23 0 6,o6 24 2 23,o5 25 2 6,o4 26 25,
 o0 27 (.build [(.slice none 0 0),(.int .u8 0),(.int .i64 0),(.string .empty),(.int .i64 0)] [(0,1,(.t 22)),(1,2,(.t 24)),(3,1,(.t 26))]),
 o0 7 (.alloc [(.slice none 0 0),(.int .u8 0),(.int .i64 0),(.string .empty),(.int .i64 0)]),
 o2 (.store 5 (.t 7) (.t 27))]) (.seq (.seq (.region [4,5,7,30] [o5 28 2 6,o4 29 28,
 o0 30 (.bin .eql (.t 29) (.c (.string .empty)))]) (.cond (.t 30) (.region [4,7] [o3 31 5,o7 32 31,o5 33 0 32,o4 34 33,o3 35 5,o7 36 35,o5 37 0 36,o4 38 37,o8 39 38,
 o0 40 (.bin .sub (.t 39) (.c (.int .i64 1))),
 o0 41 (.idxA 5 (.t 34) (.t 40)),o6 42 5 41,
 o0 43 (.call .view 578 [.t 42]),o5 44 4 7,
 o2 (.store 1 (.t 44) (.t 43))]) .skip)) (.seq (.region [4] [o6 45 5 7,
 o2 (.store 5 (.t 4) (.t 45))]) .ret))))))⟩
def zj3:XCode:=
 (.seq (.seq (.region [0,1,2,3,8,9,13] [o3 10 9,o3 11 2,o8 12 11,
 o0 13 (.bin .lss (.t 10) (.t 12))]) (.cond (.t 13) .skip (.exit 0))) (.seq (.block 1 (.seq (.region [0,1,2,3,8,9,33] [o3 16 2,o3 17 9,
 o0 18 (.idxA 2 (.t 16) (.t 17)),o5 19 0 18,o4 20 19,
 o0 21 (.bin .neq (.t 20) (.c (.int .u8 7))),o3 22 21,
 o1 23 22 false (.mv (.t 0)),
 o1 24 22 false (.nilCheck (.t 23)),
 o1 25 22 false (.fieldA 0 (.t 24)),
 o1 26 22 false (.load none (.t 25)),
 o1 27 22 false (.mv (.t 2)),
 o1 28 22 false (.mv (.t 9)),
 o1 29 22 false (.idxA 2 (.t 27) (.t 28)),
 o1 30 22 false (.load (some 2) (.t 29)),
 o1 31 22 false (.call .view 500 [(.t 26),(.t 30)]),
 o1 32 22 false (.un .not (.t 31)),
 o0 33 (.pick (.t 22) (.c (.bool true)) (.t 32))]) (.cond (.t 33) (.seq (.region [8] [o0 34 (.call .view 562 [(.c (.string ⟨#[107,105,110,100]⟩))]),
 o2 (.store 4 (.t 8) (.t 34))]) .ret) .skip))) (.region [0,1,2,3,8,9] [o3 14 9,
 o0 15 (.bin .add (.t 14) (.c (.int .i64 1))),o3 9 15])))
def zsx:zab:=
 ⟨[.cell 8 (some 4)],(.seq (.region [0,1,2,3,8] [o0 8 (.alloc [(.int .u8 0),(.int .i64 0),(.string .empty),(.int .i64 0)])]) (.seq (.seq (.region [0,1,2,3,8,9] [o0 9 (.mv (.c (.int .i64 0)))]) (.block 0 (.loop [0,1,2,3,8,9] zj3))) (.seq (.region [8] [o3 35 0,o3 36 2,
 o0 37 (.append 2 16 (.c (.slice none 0 0)) (.t 36)),o3 38 1,
 o0 39 (.build [(.int .u8 0),(.string .empty),(.slice none 0 0),(.int .i64 0),(.int .i64 0)] [(0,1,(.c (.int .u8 6))),(2,1,(.t 37)),(4,1,(.t 38))]),o3 40 3,
 o0 41 (.call .share 165 [(.t 35),(.t 39),(.t 40)]),
 o2 (.store 4 (.t 8) (.t 41))]) .ret)))⟩
def zsw:zab:=
 ⟨[.cell 6 (some 4)],(.seq (.region [0,2,4,6] [o0 4 (.box 2 (.t 1)),
 o0 6 (.alloc [(.int .u8 0),(.int .i64 0),(.string .empty),(.int .i64 0)])]) (.seq (.seq (.region [0,2,4,6,11] [o3 7 0,o6 8 2 4,
 o0 9 (.buildSlice 2 [(.int .u8 0),(.int .i64 0)] 1 [(0,2,(.t 8))]),
 o0 10 (.call .view 152 [(.t 7),(.t 9)]),
 o0 11 (.un .not (.t 10))]) (.cond (.t 11) (.seq (.region [6] [o0 12 (.call .view 562 [(.c (.string ⟨#[107,105,110,100]⟩))]),
 o2 (.store 4 (.t 6) (.t 12))]) .ret) .skip)) (.seq (.region [6] [o3 13 0,o6 14 2 4,
 o0 15 (.buildSlice 2 [(.int .u8 0),(.int .i64 0)] 1 [(0,2,(.t 14))]),
 o0 16 (.build [(.int .u8 0),(.string .empty),(.slice none 0 0),(.int .i64 0),(.int .i64 0)] [(0,1,(.c (.int .u8 7))),(2,1,(.t 15))]),o3 17 2,
 o0 18 (.call .share 165 [(.t 13),(.t 16),(.t 17)]),
 o2 (.store 4 (.t 6) (.t 18))]) .ret)))⟩
def x1:zab:=
 ⟨[.tmp 2],(.seq (.region [0] [⟨some 2,.mv (.c (.bool false)),none⟩]) (.seq (.region [0] [⟨some 3,.mv (.t 0),none⟩,
 ⟨some 4,.call .share 25 [.t 3],none⟩]) (.seq (.region [0] [⟨some 5,.mv (.t 0),none⟩,
 ⟨some 6,.call .share 29 [.t 5],none⟩]) (.seq (.region [0] [⟨some 7,.mv (.t 0),none⟩,
 ⟨some 8,.call .share 33 [.t 7],none⟩]) (.seq (.region [0] [⟨some 9,.mv (.t 0),none⟩,
 ⟨some 10,.call .share 34 [.t 9],none⟩]) (.seq (.region [0] [⟨some 11,.mv (.t 0),none⟩,
 ⟨some 12,.call .share 28 [.t 11],none⟩]) (.seq (.region [0] [⟨some 13,.mv (.t 0),none⟩,
 ⟨some 14,.call .share 24 [.t 13],none⟩]) (.seq (.region [0] [⟨some 15,.mv (.t 0),none⟩,
 ⟨some 16,.call .share 18 [.t 15],none⟩]) (.seq (.region [0] [⟨some 17,.mv (.t 0),none⟩,
 ⟨some 18,.call .share 17 [.t 17],none⟩]) (.seq (.region [0] [⟨some 19,.mv (.t 0),none⟩,
 ⟨some 20,.call .share 23 [.t 19],none⟩]) (.seq (.region [0] [⟨some 21,.mv (.t 0),none⟩,
 ⟨some 22,.call .share 22 [.t 21],none⟩]) (.seq (.region [0] [⟨some 23,.mv (.t 0),none⟩,
 ⟨some 24,.call .share 21 [.t 23],none⟩]) (.seq (.region [0] [⟨some 25,.mv (.t 0),none⟩,
 ⟨some 26,.call .share 32 [.t 25],none⟩]) (.seq (.region [0] [⟨some 27,.mv (.t 0),none⟩,
 ⟨some 28,.call .share 35 [.t 27],none⟩]) (.seq (.region [0] [⟨some 29,.mv (.t 0),none⟩,
 ⟨some 30,.call .share 30 [.t 29],none⟩]) (.seq (.region [0] [⟨some 31,.mv (.t 0),none⟩,
 ⟨some 32,.call .share 26 [.t 31],none⟩]) (.seq (.region [0] [⟨some 33,.mv (.t 0),none⟩,
 ⟨some 34,.call .share 20 [.t 33],none⟩]) (.seq (.region [0] [⟨some 35,.mv (.t 0),none⟩,
 ⟨some 36,.call .share 19 [.t 35],none⟩]) (.seq (.region [0] [⟨some 37,.mv (.t 0),none⟩,
 ⟨some 38,.call .share 27 [.t 37],none⟩]) (.seq (.region [0] [⟨some 39,.mv (.t 0),none⟩,
 ⟨some 40,.call .share 16 [.t 39],none⟩]) (.seq (.region [0] [⟨some 41,.mv (.t 0),none⟩,
 ⟨some 42,.call .share 31 [.t 41],none⟩]) (.seq (.region [0] [⟨some 43,.mv (.t 0),none⟩,
 ⟨some 44,.call .share 45 [.t 43],none⟩]) (.seq (.region [0] [⟨some 45,.mv (.t 0),none⟩,
 ⟨some 46,.call .share 49 [.t 45],none⟩]) (.seq (.region [0] [⟨some 47,.mv (.t 0),none⟩,
 ⟨some 48,.call .share 53 [.t 47],none⟩]) (.seq (.region [0] [⟨some 49,.mv (.t 0),none⟩,
 ⟨some 50,.call .share 54 [.t 49],none⟩]) (.seq (.region [0] [⟨some 51,.mv (.t 0),none⟩,
 ⟨some 52,.call .share 48 [.t 51],none⟩]) (.seq (.region [0] [⟨some 53,.mv (.t 0),none⟩,
 ⟨some 54,.call .share 44 [.t 53],none⟩]) (.seq (.region [0] [⟨some 55,.mv (.t 0),none⟩,
 ⟨some 56,.call .share 38 [.t 55],none⟩]) (.seq (.region [0] [⟨some 57,.mv (.t 0),none⟩,
 ⟨some 58,.call .share 37 [.t 57],none⟩]) (.seq (.region [0] [⟨some 59,.mv (.t 0),none⟩,
 ⟨some 60,.call .share 43 [.t 59],none⟩]) (.seq (.region [0] [⟨some 61,.mv (.t 0),none⟩,
 ⟨some 62,.call .share 42 [.t 61],none⟩]) (.seq (.region [0] [⟨some 63,.mv (.t 0),none⟩,
 ⟨some 64,.call .share 41 [.t 63],none⟩]) (.seq (.region [0] [⟨some 65,.mv (.t 0),none⟩,
 ⟨some 66,.call .share 52 [.t 65],none⟩]) (.seq (.region [0] [⟨some 67,.mv (.t 0),none⟩,
 ⟨some 68,.call .share 55 [.t 67],none⟩]) (.seq (.region [0] [⟨some 69,.mv (.t 0),none⟩,
 ⟨some 70,.call .share 50 [.t 69],none⟩]) (.seq (.region [0] [⟨some 71,.mv (.t 0),none⟩,
 ⟨some 72,.call .share 46 [.t 71],none⟩]) (.seq (.region [0] [⟨some 73,.mv (.t 0),none⟩,
 ⟨some 74,.call .share 40 [.t 73],none⟩]) (.seq (.region [0] [⟨some 75,.mv (.t 0),none⟩,
 ⟨some 76,.call .share 39 [.t 75],none⟩]) (.seq (.region [0] [⟨some 77,.mv (.t 0),none⟩,
 ⟨some 78,.call .share 47 [.t 77],none⟩]) (.seq (.region [0] [⟨some 79,.mv (.t 0),none⟩,
 ⟨some 80,.call .share 36 [.t 79],none⟩]) (.seq (.region [0] [⟨some 81,.mv (.t 0),none⟩,
 ⟨some 82,.call .share 51 [.t 81],none⟩]) (.seq (.region [2] [⟨some 83,.mv (.t 0),none⟩,
 ⟨some 84,.call .share 75 [.t 83],none⟩,
 ⟨some 85,.mv (.t 84),none⟩,
 ⟨some 86,.mv (.t 0),some (85,true)⟩,
 ⟨some 87,.call .share 79 [.t 86],some (85,true)⟩,
 ⟨some 88,.pick (.t 85) (.t 87) (.c (.bool false)),none⟩,
 ⟨some 89,.mv (.t 88),none⟩,
 ⟨some 90,.mv (.t 0),some (89,true)⟩,
 ⟨some 91,.call .share 83 [.t 90],some (89,true)⟩,
 ⟨some 92,.pick (.t 89) (.t 91) (.c (.bool false)),none⟩,
 ⟨some 93,.mv (.t 92),none⟩,
 ⟨some 94,.mv (.t 0),some (93,true)⟩,
 ⟨some 95,.call .share 84 [.t 94],some (93,true)⟩,
 ⟨some 96,.pick (.t 93) (.t 95) (.c (.bool false)),none⟩,
 ⟨some 97,.mv (.t 96),none⟩,
 ⟨some 98,.mv (.t 0),some (97,true)⟩,
 ⟨some 99,.call .share 78 [.t 98],some (97,true)⟩,
 ⟨some 100,.pick (.t 97) (.t 99) (.c (.bool false)),none⟩,
 ⟨some 101,.mv (.t 100),none⟩,
 ⟨some 102,.mv (.t 0),some (101,true)⟩,
 ⟨some 103,.call .share 74 [.t 102],some (101,true)⟩,
 ⟨some 104,.pick (.t 101) (.t 103) (.c (.bool false)),none⟩,
 ⟨some 105,.mv (.t 104),none⟩,
 ⟨some 106,.mv (.t 0),some (105,true)⟩,
 ⟨some 107,.call .share 68 [.t 106],some (105,true)⟩,
 ⟨some 108,.pick (.t 105) (.t 107) (.c (.bool false)),none⟩,
 ⟨some 109,.mv (.t 108),none⟩,
 ⟨some 110,.mv (.t 0),some (109,true)⟩,
 ⟨some 111,.call .share 67 [.t 110],some (109,true)⟩,
 ⟨some 112,.pick (.t 109) (.t 111) (.c (.bool false)),none⟩,
 ⟨some 113,.mv (.t 112),none⟩,
 ⟨some 114,.mv (.t 0),some (113,true)⟩,
 ⟨some 115,.call .share 73 [.t 114],some (113,true)⟩,
 ⟨some 116,.pick (.t 113) (.t 115) (.c (.bool false)),none⟩,
 ⟨some 117,.mv (.t 116),none⟩,
 ⟨some 118,.mv (.t 0),some (117,true)⟩,
 ⟨some 119,.call .share 72 [.t 118],some (117,true)⟩,
 ⟨some 120,.pick (.t 117) (.t 119) (.c (.bool false)),none⟩,
 ⟨some 121,.mv (.t 120),none⟩,
 ⟨some 122,.mv (.t 0),some (121,true)⟩,
 ⟨some 123,.call .share 71 [.t 122],some (121,true)⟩,
 ⟨some 124,.pick (.t 121) (.t 123) (.c (.bool false)),none⟩,
 ⟨some 125,.mv (.t 124),none⟩,
 ⟨some 126,.mv (.t 0),some (125,true)⟩,
 ⟨some 127,.call .share 82 [.t 126],some (125,true)⟩,
 ⟨some 128,.pick (.t 125) (.t 127) (.c (.bool false)),none⟩,
 ⟨some 129,.mv (.t 128),none⟩,
 ⟨some 130,.mv (.t 0),some (129,true)⟩,
 ⟨some 131,.call .share 85 [.t 130],some (129,true)⟩,
 ⟨some 132,.pick (.t 129) (.t 131) (.c (.bool false)),none⟩,
 ⟨some 133,.mv (.t 132),none⟩,
 ⟨some 134,.mv (.t 0),some (133,true)⟩,
 ⟨some 135,.call .share 80 [.t 134],some (133,true)⟩,
 ⟨some 136,.pick (.t 133) (.t 135) (.c (.bool false)),none⟩,
 ⟨some 137,.mv (.t 136),none⟩,
 ⟨some 138,.mv (.t 0),some (137,true)⟩,
 ⟨some 139,.call .share 76 [.t 138],some (137,true)⟩,
 ⟨some 140,.pick (.t 137) (.t 139) (.c (.bool false)),none⟩,
 ⟨some 141,.mv (.t 140),none⟩,
 ⟨some 142,.mv (.t 0),some (141,true)⟩,
 ⟨some 143,.call .share 70 [.t 142],some (141,true)⟩,
 ⟨some 144,.pick (.t 141) (.t 143) (.c (.bool false)),none⟩,
 ⟨some 145,.mv (.t 144),none⟩,
 ⟨some 146,.mv (.t 0),some (145,true)⟩,
 ⟨some 147,.call .share 69 [.t 146],some (145,true)⟩,
 ⟨some 148,.pick (.t 145) (.t 147) (.c (.bool false)),none⟩,
 ⟨some 149,.mv (.t 148),none⟩,
 ⟨some 150,.mv (.t 0),some (149,true)⟩,
 ⟨some 151,.call .share 77 [.t 150],some (149,true)⟩,
 ⟨some 152,.pick (.t 149) (.t 151) (.c (.bool false)),none⟩,
 ⟨some 153,.mv (.t 152),none⟩,
 ⟨some 154,.mv (.t 0),some (153,true)⟩,
 ⟨some 155,.call .share 66 [.t 154],some (153,true)⟩,
 ⟨some 156,.pick (.t 153) (.t 155) (.c (.bool false)),none⟩,
 ⟨some 157,.mv (.t 156),none⟩,
 ⟨some 158,.mv (.t 0),some (157,true)⟩,
 ⟨some 159,.call .share 81 [.t 158],some (157,true)⟩,
 ⟨some 160,.pick (.t 157) (.t 159) (.c (.bool false)),none⟩,
 ⟨some 2,.mv (.t 160),none⟩]) .ret))))))))))))))))))))))))))))))))))))))))))⟩
def zle:XCode:=
 (.seq (.seq (.region [0,1,5,9] [o3 6 5,o3 7 1,o8 8 7,
 o0 9 (.bin .lss (.t 6) (.t 8))]) (.cond (.t 9) .skip (.exit 0))) (.seq (.block 1 (.seq (.region [0,1,5,29] [o3 12 1,o3 13 5,
 o0 14 (.idxA 2 (.t 12) (.t 13)),o5 15 0 14,o4 16 15,
 o0 17 (.bin .eql (.t 16) (.c (.int .u8 7))),o3 18 17,
 o1 19 18 false (.mv (.t 0)),
 o1 20 18 false (.nilCheck (.t 19)),
 o1 21 18 false (.fieldA 0 (.t 20)),
 o1 22 18 false (.load none (.t 21)),
 o1 23 18 false (.mv (.t 1)),
 o1 24 18 false (.mv (.t 5)),
 o1 25 18 false (.idxA 2 (.t 23) (.t 24)),
 o1 26 18 false (.load (some 2) (.t 25)),
 o1 27 18 false (.call .view 500 [(.t 22),(.t 26)]),
 o1 28 18 false (.un .not (.t 27)),
 o0 29 (.pick (.t 18) (.c (.bool true)) (.t 28))]) (.cond (.t 29) (.seq (.region [4] [o0 4 (.mv (.c (.bool false)))]) .ret) .skip))) (.region [0,1,5] [o3 10 5,
 o0 11 (.bin .add (.t 10) (.c (.int .i64 1))),o3 5 11])))
def zj2:zab:=
 ⟨[.tmp 4],(.seq (.region [0,1] [o0 4 (.mv (.c (.bool false)))]) (.seq (.seq (.region [0,1,5] [o0 5 (.mv (.c (.int .i64 0)))]) (.block 0 (.loop [0,1,5] zle))) (.seq (.region [4] [o0 4 (.mv (.c (.bool true)))]) .ret)))⟩
def zll:zab:=
 ⟨[.cell 2 (some 4)],(.seq (.region [0,2] [o0 2 (.alloc [(.int .u8 0),(.int .i64 0),(.string .empty),(.int .i64 0)])]) (.seq (.region [2] [o3 3 0,
 o0 4 (.build [(.int .u8 0),(.int .i64 0),(.string .empty),(.int .i64 0)] [(2,1,(.t 3))]),
 o2 (.store 4 (.t 2) (.t 4))]) .ret))⟩
def yi8:zab:=
 ⟨[.cell 2 (some 2)],(.seq (.region [0,2] [o0 2 (.alloc [(.int .u8 0),(.int .i64 0)])]) (.seq (.seq (.region [2,3] [o3 3 0]) (.cond (.t 3) (.seq (.region [2] [o0 4 (.build [(.int .u8 0),(.int .i64 0)] [(0,1,(.c (.int .u8 1))),(1,1,(.c (.int .i64 1)))]),
 o2 (.store 2 (.t 2) (.t 4))]) .ret) .skip)) (.seq (.region [2] [o0 5 (.build [(.int .u8 0),(.int .i64 0)] [(0,1,(.c (.int .u8 1)))]),
 o2 (.store 2 (.t 2) (.t 5))]) .ret)))⟩
def zie:zab:=
 ⟨[.tmp 6],(.seq (.region [0,4,5] [o0 4 (.box 2 (.t 1)),
 o0 5 (.box 2 (.t 2)),
 o0 6 (.mv (.c (.bool false)))]) (.seq (.seq (.region [0,4,5,11] [o5 7 0 4,o4 8 7,o5 9 0 5,o4 10 9,
 o0 11 (.bin .neq (.t 8) (.t 10))]) (.cond (.t 11) (.seq (.region [6] [o0 6 (.mv (.c (.bool false)))]) .ret) .skip)) (.seq (.seq (.region [0,4,5,14] [o5 12 0 4,o4 13 12,
 o0 14 (.bin .eql (.t 13) (.c (.int .u8 3)))]) (.cond (.t 14) (.seq (.region [6] [o3 15 0,o6 16 2 4,
 o0 17 (.call .view 166 [(.t 15),(.t 16)]),
 o0 18 (.field 1 none (.t 17)),o3 19 0,o6 20 2 5,
 o0 21 (.call .view 166 [(.t 19),(.t 20)]),
 o0 22 (.field 1 none (.t 21)),
 o0 23 (.bin .eql (.t 18) (.t 22)),o3 6 23]) .ret) .skip)) (.seq (.region [6] [o5 24 0 4,o4 25 24,
 o0 26 (.bin .eql (.t 25) (.c (.int .u8 0))),o3 27 26,
 o1 28 27 false (.fieldA 1 (.t 4)),
 o1 29 27 false (.load none (.t 28)),
 o1 30 27 false (.fieldA 1 (.t 5)),
 o1 31 27 false (.load none (.t 30)),
 o1 32 27 false (.bin .eql (.t 29) (.t 31)),
 o0 33 (.pick (.t 27) (.c (.bool true)) (.t 32)),o3 6 33]) .ret))))⟩
def yja:zab:=
 ⟨[.cell 6 (some 4)],(.seq (.region [0,1,2,6] [o0 6 (.alloc [(.int .u8 0),(.int .i64 0),(.string .empty),(.int .i64 0)])]) (.seq (.seq (.region [0,1,2,6,7] [o3 7 0]) (.block 0 (.seq (.region [0,1,2,6,7,8] [o0 9 (.bin .eql (.t 7) (.c (.int .u8 1))),o3 8 9]) (.cond (.t 8) (.seq (.region [6] [o3 10 1,o3 11 2,
 o0 12 (.bin .add (.t 10) (.t 11)),
 o0 13 (.call .view 558 [.t 12]),
 o0 14 (.build [(.int .u8 0),(.int .i64 0),(.string .empty),(.int .i64 0)] [(0,2,(.t 13))]),
 o2 (.store 4 (.t 6) (.t 14))]) .ret) (.seq (.region [0,1,2,6,7,15] [o0 16 (.bin .eql (.t 7) (.c (.int .u8 2))),o3 15 16]) (.cond (.t 15) (.seq (.region [6] [o3 17 1,o3 18 2,
 o0 19 (.bin .sub (.t 17) (.t 18)),
 o0 20 (.call .view 558 [.t 19]),
 o0 21 (.build [(.int .u8 0),(.int .i64 0),(.string .empty),(.int .i64 0)] [(0,2,(.t 20))]),
 o2 (.store 4 (.t 6) (.t 21))]) .ret) (.seq (.region [0,1,2,6,7,22] [o0 23 (.bin .eql (.t 7) (.c (.int .u8 3))),o3 22 23]) (.cond (.t 22) (.seq (.region [6] [o3 24 1,o3 25 2,
 o0 26 (.bin .mul (.t 24) (.t 25)),
 o0 27 (.call .view 558 [.t 26]),
 o0 28 (.build [(.int .u8 0),(.int .i64 0),(.string .empty),(.int .i64 0)] [(0,2,(.t 27))]),
 o2 (.store 4 (.t 6) (.t 28))]) .ret) (.seq (.seq (.region [0,1,2,6,7,29] [o0 30 (.bin .eql (.t 7) (.c (.int .u8 4))),o3 29 30]) (.cond (.t 29) .skip (.region [0,1,2,6,7,29] [o0 31 (.bin .eql (.t 7) (.c (.int .u8 5))),o3 29 31]))) (.cond (.t 29) (.seq (.seq (.region [0,1,2,6,33] [o3 32 2,
 o0 33 (.bin .eql (.t 32) (.c (.int .i64 0)))]) (.cond (.t 33) (.seq (.region [6] [o0 34 (.call .view 562 [(.c (.string ⟨#[122,101,114,111]⟩))]),
 o2 (.store 4 (.t 6) (.t 34))]) .ret) .skip)) (.seq (.seq (.region [0,1,2,6,36] [o3 35 2,
 o0 36 (.bin .eql (.t 35) (.c (.int .i64 (-1))))]) (.cond (.t 36) (.seq (.seq (.region [1,6,38] [o3 37 0,
 o0 38 (.bin .eql (.t 37) (.c (.int .u8 5)))]) (.cond (.t 38) (.seq (.region [6] [o0 39 (.call .view 558 [(.c (.int .i64 0))]),
 o0 40 (.build [(.int .u8 0),(.int .i64 0),(.string .empty),(.int .i64 0)] [(0,2,(.t 39))]),
 o2 (.store 4 (.t 6) (.t 40))]) .ret) .skip)) (.seq (.region [6] [o3 41 1,
 o0 42 (.un .neg (.t 41)),
 o0 43 (.call .view 558 [.t 42]),
 o0 44 (.build [(.int .u8 0),(.int .i64 0),(.string .empty),(.int .i64 0)] [(0,2,(.t 43))]),
 o2 (.store 4 (.t 6) (.t 44))]) .ret)) .skip)) (.seq (.seq (.region [1,2,6,46] [o3 45 0,
 o0 46 (.bin .eql (.t 45) (.c (.int .u8 5)))]) (.cond (.t 46) (.seq (.region [6] [o3 47 1,o3 48 2,
 o0 49 (.bin .rem (.t 47) (.t 48)),
 o0 50 (.call .view 558 [.t 49]),
 o0 51 (.build [(.int .u8 0),(.int .i64 0),(.string .empty),(.int .i64 0)] [(0,2,(.t 50))]),
 o2 (.store 4 (.t 6) (.t 51))]) .ret) .skip)) (.seq (.region [6] [o3 52 1,o3 53 2,
 o0 54 (.bin .quo (.t 52) (.t 53)),
 o0 55 (.call .view 558 [.t 54]),
 o0 56 (.build [(.int .u8 0),(.int .i64 0),(.string .empty),(.int .i64 0)] [(0,2,(.t 55))]),
 o2 (.store 4 (.t 6) (.t 56))]) .ret)))) (.seq (.region [1,2,6,7,57] [o0 58 (.bin .eql (.t 7) (.c (.int .u8 6))),o3 57 58]) (.cond (.t 57) (.seq (.region [6] [o3 59 1,o3 60 2,
 o0 61 (.bin .lss (.t 59) (.t 60)),
 o0 62 (.call .view 557 [.t 61]),
 o0 63 (.build [(.int .u8 0),(.int .i64 0),(.string .empty),(.int .i64 0)] [(0,2,(.t 62))]),
 o2 (.store 4 (.t 6) (.t 63))]) .ret) (.seq (.region [1,2,6,64] [o0 65 (.bin .eql (.t 7) (.c (.int .u8 7))),o3 64 65]) (.cond (.t 64) (.seq (.region [6] [o3 66 1,o3 67 2,
 o0 68 (.bin .leq (.t 66) (.t 67)),
 o0 69 (.call .view 557 [.t 68]),
 o0 70 (.build [(.int .u8 0),(.int .i64 0),(.string .empty),(.int .i64 0)] [(0,2,(.t 69))]),
 o2 (.store 4 (.t 6) (.t 70))]) .ret) .skip)))))))))))))) (.seq (.region [6] [o0 71 (.call .view 562 [(.c (.string ⟨#[107,105,110,100]⟩))]),
 o2 (.store 4 (.t 6) (.t 71))]) .ret)))⟩
def zhm:zab:=
 ⟨[.cell 4 (some 5)],(.seq (.region [0,3,4] [o0 3 (.box 2 (.t 1)),
 o0 4 (.alloc [(.int .u8 0),(.string .empty),(.slice none 0 0),(.int .i64 0),(.int .i64 0)])]) (.seq (.region [4] [o3 5 0,o7 6 5,o5 7 0 6,o4 8 7,o5 9 1 3,o4 10 9,
 o0 11 (.bin .sub (.t 10) (.c (.int .i64 1))),
 o0 12 (.idxA 5 (.t 8) (.t 11)),o6 13 5 12,
 o2 (.store 5 (.t 4) (.t 13))]) .ret))⟩
def zlk:zab:=
 ⟨[.tmp 2],(.seq (.region [1] [o0 1 (.box 4 (.t 0)),
 o0 2 (.mv (.c (.int .i64 0)))]) (.seq (.seq (.region [1,5] [o5 3 2 1,o4 4 3,
 o0 5 (.bin .neq (.t 4) (.c (.string .empty)))]) (.cond (.t 5) (.seq (.region [2] [o0 2 (.mv (.c (.int .i64 0)))]) .ret) .skip)) (.seq (.region [2] [o5 6 3 1,o4 7 6,o3 2 7]) .ret)))⟩
def zna:XCode:=
 (.seq (.seq (.region [0,1,5,7,11] [o3 8 7,o3 9 1,o8 10 9,
 o0 11 (.bin .lss (.t 8) (.t 10))]) (.cond (.t 11) .skip (.exit 0))) (.seq (.block 1 (.seq (.region [0,1,5,7,20] [o3 14 0,o3 15 1,o3 16 7,
 o0 17 (.idxA 2 (.t 15) (.t 16)),o6 18 2 17,o6 19 2 5,
 o0 20 (.call .view 161 [(.t 14),(.t 18),(.t 19)])]) (.cond (.t 20) (.seq (.region [6] [o3 21 7,o3 6 21]) .ret) .skip))) (.region [0,1,5,7] [o3 12 7,
 o0 13 (.bin .add (.t 12) (.c (.int .i64 2))),o3 7 13])))
def zsy:zab:=
 ⟨[.tmp 6],(.seq (.region [0,1,5] [o0 5 (.box 2 (.t 2)),
 o0 6 (.mv (.c (.int .i64 0)))]) (.seq (.seq (.region [0,1,5,7] [o0 7 (.mv (.c (.int .i64 0)))]) (.block 0 (.loop [0,1,5,7] zna))) (.seq (.region [6] [o0 6 (.mv (.c (.int .i64 (-1))))]) .ret)))⟩
def yi9:zab:=
 ⟨[.cell 2 (some 2)],(.seq (.region [0,2] [o0 2 (.alloc [(.int .u8 0),(.int .i64 0)])]) (.seq (.region [2] [o3 3 0,
 o0 4 (.build [(.int .u8 0),(.int .i64 0)] [(0,1,(.c (.int .u8 2))),(1,1,(.t 3))]),
 o2 (.store 2 (.t 2) (.t 4))]) .ret))⟩
def zhl:zab:=
 ⟨[.cell 6 (some 4)],(.seq (.region [0,2,4,6] [o0 4 (.box 5 (.t 1)),
 o0 6 (.alloc [(.int .u8 0),(.int .i64 0),(.string .empty),(.int .i64 0)])]) (.seq (.region [0,2,4,6,7] [o6 8 5 4,
 o0 9 (.call .view 559 [.t 8]),o3 7 9]) (.seq (.seq (.region [0,4,6,7,10] [o3 10 2]) (.cond (.t 10) (.seq (.region [6] [o3 11 7,
 o0 12 (.build [(.int .u8 0),(.int .i64 0),(.string .empty),(.int .i64 0)] [(3,1,(.t 11))]),
 o2 (.store 4 (.t 6) (.t 12))]) .ret) .skip)) (.seq (.region [0,4,6,7] [o3 13 0,o3 14 0,o7 15 14,o5 16 0 15,o4 17 16,o6 18 5 4,
 o0 19 (.buildSlice 5 [(.int .u8 0),(.string .empty),(.slice none 0 0),(.int .i64 0),(.int .i64 0)] 1 [(0,5,(.t 18))]),
 o0 20 (.append 5 64 (.t 17) (.t 19)),o7 21 13,o5 22 0 21,
 o2 (.store 1 (.t 22) (.t 20))]) (.seq (.region [6] [o5 23 0 4,o4 24 23,o3 25 0,o7 26 25,o5 27 0 26,o4 28 27,o8 29 28,
 o0 30 (.build [(.int .u8 0),(.int .i64 0)] [(0,1,(.t 24)),(1,1,(.t 29))]),o3 31 7,
 o0 32 (.build [(.int .u8 0),(.int .i64 0),(.string .empty),(.int .i64 0)] [(0,2,(.t 30)),(3,1,(.t 31))]),
 o2 (.store 4 (.t 6) (.t 32))]) .ret)))))⟩
@[simp] def yl8(n0:Nat):zab:=
 ⟨[],(.seq (.region [0,1] [o3 4 0,o7 5 4,o5 6 0 5,o4 7 6,o0 8 (.bin .add (.t 7) (.c (.int .i64 1))),o7 9 4,o5 10 0 9,o2 (.store 1 (.t 10) (.t 8))]) (.region [] [o3 11 0,o3 12 0,o7 13 12,o5 14 n0 13,o4 15 14,o3 16 1,o3 17 0,o7 18 17,o5 19 0 18,o4 20 19,o0 21 (.build [(.slice none 0 0),(.slice none 0 0),(.int .i64 0)] [(0,1,(.t 16)),(2,1,(.t 20))]),o0 22 (.buildSlice 3 [(.slice none 0 0),(.slice none 0 0),(.int .i64 0)] 1 [(0,3,(.t 21))]),o0 23 (.append 3 56 (.t 15) (.t 22)),o7 24 11,o5 25 n0 24,o2 (.store 1 (.t 25) (.t 23))]))⟩
@[simp] def yl9(n0:Nat)(n1:Nat):XCode:=
 (.seq (.seq (.region [0,2,3,4,25] [o3 21 4,o5 22 0 3,o4 23 22,o8 24 23,o0 25 (.bin .lss (.t 21) (.t 24))]) (.cond (.t 25) .skip (.exit 2))) (.seq (.block 3 (.region [0,2,3,4] [o5 28 0 3,o4 29 28,o3 30 4,o5 31 2 3,o4 32 31,o0 33 (.call .view n0 [.t 32]),o0 34 (.idxA n1 (.t 29) (.t 30)),o2 (.store n1 (.t 34) (.t 33))])) (.region [0,2,3,4] [o3 26 4,o0 27 (.bin .add (.t 26) (.c (.int .i64 1))),o3 4 27])))
@[simp] def yma(n0:Nat)(c1:XCode):XCode:=
 (.seq (.seq (.region [0,2,11] [o3 5 2,o3 6 0,o7 7 6,o5 8 n0 7,o4 9 8,o8 10 9,o0 11 (.bin .lss (.t 5) (.t 10))]) (.cond (.t 11) .skip (.exit 0))) (.seq (.block 1 (.seq (.region [0,2,3] [o3 14 0,o7 15 14,o5 16 n0 15,o4 17 16,o3 18 2,o0 19 (.idxA 3 (.t 17) (.t 18)),o6 20 3 19,o0 3 (.alloc [(.slice none 0 0),(.slice none 0 0),(.int .i64 0)]),o2 (.store 3 (.t 3) (.t 20))]) (.seq (.region [0,2,3,4] [o0 4 (.mv (.c (.int .i64 0)))]) (.block 2 (.loop [0,2,3,4] c1))))) (.region [0,2] [o3 12 2,o0 13 (.bin .add (.t 12) (.c (.int .i64 1))),o3 2 13])))
@[simp] def ymb(c0:XCode):zab:=
 ⟨[],(.seq (.region [0,2] [o0 2 (.mv (.c (.int .i64 0)))]) (.block 0 (.loop [0,2] c0)))⟩
@[simp] def ymc(n0:Nat):XCode:=
 (.seq (.seq (.region [0,2,3,4,5,25] [o3 24 5,o0 25 (.bin .lss (.t 24) (.c (.int .i64 40)))]) (.cond (.t 25) .skip (.exit 2))) (.seq (.block 3 (.region [0,2,3,4,5] [o3 28 4,o5 29 2 3,o4 30 29,o0 31 (.call .view n0 [.t 30]),o0 32 (.buildSlice 1 [(.int .i64 0)] 1 [(0,1,(.t 31))]),o0 33 (.append 1 8 (.t 28) (.t 32)),o3 4 33])) (.region [0,2,3,4,5] [o3 26 5,o0 27 (.bin .add (.t 26) (.c (.int .i64 1))),o3 5 27])))
@[simp] def ymd(n0:Nat)(c1:XCode):XCode:=
 (.seq (.seq (.region [0,2,12] [o3 6 2,o3 7 0,o7 8 7,o5 9 n0 8,o4 10 9,o8 11 10,o0 12 (.bin .lss (.t 6) (.t 11))]) (.cond (.t 12) .skip (.exit 0))) (.seq (.block 1 (.seq (.region [0,2,3] [o3 15 0,o7 16 15,o5 17 n0 16,o4 18 17,o3 19 2,o0 20 (.idxA 3 (.t 18) (.t 19)),o6 21 3 20,o0 3 (.alloc [(.slice none 0 0),(.slice none 0 0),(.int .i64 0)]),o2 (.store 3 (.t 3) (.t 21))]) (.seq (.region [0,2,3,4] [o5 22 0 3,o4 23 22,o3 4 23]) (.seq (.seq (.region [0,2,3,4,5] [o0 5 (.mv (.c (.int .i64 0)))]) (.block 2 (.loop [0,2,3,4,5] c1))) (.region [0,2] [o3 34 0,o7 35 34,o5 36 n0 35,o4 37 36,o3 38 2,o3 39 4,o0 40 (.idxA 3 (.t 37) (.t 38)),o5 41 1 40,o2 (.store 1 (.t 41) (.t 39))]))))) (.region [0,2] [o3 13 2,o0 14 (.bin .add (.t 13) (.c (.int .i64 1))),o3 2 14])))
@[simp] def yme(n0:Nat):XCode:=
 (.seq (.seq (.region [0,2,3,4,5,25] [o3 24 5,o0 25 (.bin .lss (.t 24) (.c (.int .i64 40)))]) (.cond (.t 25) .skip (.exit 2))) (.seq (.block 3 (.region [0,2,3,4,5] [o3 28 4,o5 29 2 3,o4 30 29,o0 31 (.call .view n0 [.t 30]),o0 32 (.buildSlice 2 [(.int .u8 0),(.int .i64 0)] 1 [(0,2,(.t 31))]),o0 33 (.append 2 16 (.t 28) (.t 32)),o3 4 33])) (.region [0,2,3,4,5] [o3 26 5,o0 27 (.bin .add (.t 26) (.c (.int .i64 1))),o3 5 27])))
@[simp] def ymf(n0:Nat):XCode:=
 (.seq (.seq (.region [0,2,3,4,5,25] [o3 24 5,o0 25 (.bin .lss (.t 24) (.c (.int .i64 40)))]) (.cond (.t 25) .skip (.exit 2))) (.seq (.block 3 (.region [0,2,3,4,5] [o3 28 4,o5 29 2 3,o4 30 29,o0 31 (.call .view n0 [.t 30]),o0 32 (.buildSlice 2 [(.int .i64 0),(.slice none 0 0)] 1 [(0,2,(.t 31))]),o0 33 (.append 2 32 (.t 28) (.t 32)),o3 4 33])) (.region [0,2,3,4,5] [o3 26 5,o0 27 (.bin .add (.t 26) (.c (.int .i64 1))),o3 5 27])))
@[simp] def ymg(n0:Nat):XCode:=
 (.seq (.seq (.region [0,3,4,5,34] [o3 30 5,o5 31 1 4,o4 32 31,o8 33 32,o0 34 (.bin .lss (.t 30) (.t 33))]) (.cond (.t 34) .skip (.exit 2))) (.seq (.block 3 (.seq (.region [0,3,4,5,63] [o5 37 1 4,o4 38 37,o3 39 5,o0 40 (.idxA 1 (.t 38) (.t 39)),o4 41 40,o5 42 2 4,o4 43 42,o0 44 (.call .view n0 [(.t 41),(.t 43)]),o0 45 (.un .not (.t 44)),o3 46 45,o1 47 46 false (.mv (.t 5)),o1 48 46 false (.fieldA 0 (.t 4)),o1 49 46 false (.load none (.t 48)),o1 50 46 false (.len (.t 49)),o1 51 46 false (.bin .lss (.t 47) (.t 50)),o1 52 46 false (.mv (.t 51)),o1 53 52 true (.fieldA 0 (.t 4)),o1 54 52 true (.load none (.t 53)),o1 55 52 true (.mv (.t 5)),o1 56 52 true (.idxA 1 (.t 54) (.t 55)),o1 57 52 true (.load none (.t 56)),o1 58 52 true (.fieldA 2 (.t 4)),o1 59 52 true (.load none (.t 58)),o1 60 52 true (.call .view n0 [(.t 57),(.t 59)]),o1 61 52 true (.un .not (.t 60)),o1 62 46 false (.pick (.t 52) (.t 61) (.c (.bool false))),o0 63 (.pick (.t 46) (.c (.bool true)) (.t 62))]) (.cond (.t 63) (.seq (.region [2] [o0 2 (.mv (.c (.bool false)))]) .ret) .skip))) (.region [0,3,4,5] [o3 35 5,o0 36 (.bin .add (.t 35) (.c (.int .i64 1))),o3 5 36])))
@[simp] def yl5(n0:Nat)(c1:XCode):XCode:=
 (.seq (.seq (.region [0,3,12] [o3 6 3,o3 7 0,o7 8 7,o5 9 n0 8,o4 10 9,o8 11 10,o0 12 (.bin .lss (.t 6) (.t 11))]) (.cond (.t 12) .skip (.exit 0))) (.seq (.block 1 (.seq (.region [0,3,4] [o3 15 0,o7 16 15,o5 17 n0 16,o4 18 17,o3 19 3,o0 20 (.idxA 3 (.t 18) (.t 19)),o6 21 3 20,o0 4 (.alloc [(.slice none 0 0),(.slice none 0 0),(.int .i64 0)]),o2 (.store 3 (.t 4) (.t 21))]) (.seq (.seq (.region [0,3,4,29] [o5 22 1 4,o4 23 22,o8 24 23,o5 25 0 4,o4 26 25,o8 27 26,o0 28 (.bin .add (.t 27) (.c (.int .i64 40))),o0 29 (.bin .neq (.t 24) (.t 28))]) (.cond (.t 29) (.seq (.region [2] [o0 2 (.mv (.c (.bool false)))]) .ret) .skip)) (.seq (.region [0,3,4,5] [o0 5 (.mv (.c (.int .i64 0)))]) (.block 2 (.loop [0,3,4,5] c1)))))) (.region [0,3] [o3 13 3,o0 14 (.bin .add (.t 13) (.c (.int .i64 1))),o3 3 14])))
@[simp] def yl6(c0:XCode):zab:=
 ⟨[.tmp 2],(.seq (.region [0] [o0 2 (.mv (.c (.bool false)))]) (.seq (.seq (.region [0,3] [o0 3 (.mv (.c (.int .i64 0)))]) (.block 0 (.loop [0,3] c0))) (.seq (.region [2] [o0 2 (.mv (.c (.bool true)))]) .ret)))⟩
@[simp] def yl7(n0:Nat)(n1:Nat):XCode:=
 (.seq (.seq (.region [0,3,4,5,34] [o3 30 5,o5 31 1 4,o4 32 31,o8 33 32,o0 34 (.bin .lss (.t 30) (.t 33))]) (.cond (.t 34) .skip (.exit 2))) (.seq (.block 3 (.seq (.region [0,3,4,5,63] [o5 37 1 4,o4 38 37,o3 39 5,o0 40 (.idxA n0 (.t 38) (.t 39)),o6 41 n0 40,o5 42 2 4,o4 43 42,o0 44 (.call .view n1 [(.t 41),(.t 43)]),o0 45 (.un .not (.t 44)),o3 46 45,o1 47 46 false (.mv (.t 5)),o1 48 46 false (.fieldA 0 (.t 4)),o1 49 46 false (.load none (.t 48)),o1 50 46 false (.len (.t 49)),o1 51 46 false (.bin .lss (.t 47) (.t 50)),o1 52 46 false (.mv (.t 51)),o1 53 52 true (.fieldA 0 (.t 4)),o1 54 52 true (.load none (.t 53)),o1 55 52 true (.mv (.t 5)),o1 56 52 true (.idxA n0 (.t 54) (.t 55)),o1 57 52 true (.load (some n0) (.t 56)),o1 58 52 true (.fieldA 2 (.t 4)),o1 59 52 true (.load none (.t 58)),o1 60 52 true (.call .view n1 [(.t 57),(.t 59)]),o1 61 52 true (.un .not (.t 60)),o1 62 46 false (.pick (.t 52) (.t 61) (.c (.bool false))),o0 63 (.pick (.t 46) (.c (.bool true)) (.t 62))]) (.cond (.t 63) (.seq (.region [2] [o0 2 (.mv (.c (.bool false)))]) .ret) .skip))) (.region [0,3,4,5] [o3 35 5,o0 36 (.bin .add (.t 35) (.c (.int .i64 1))),o3 5 36])))
def zfa:zab:=
 ⟨[.tmp 2],(.seq (.region [1] [o0 1 (.box 5 (.t 0)),
 o0 2 (.mv (.c (.int .i64 0)))]) (.seq (.seq (.region [1,4] [o5 3 0 1,o4 4 3]) (.block 0 (.seq (.region [1,4,5] [o0 6 (.bin .eql (.t 4) (.c (.int .u8 3))),o3 5 6]) (.cond (.t 5) (.seq (.region [2] [o5 7 1 1,o4 8 7,
 o0 9 (.lenS (.t 8)),
 o0 10 (.bin .add (.t 9) (.c (.int .i64 7))),
 o0 11 (.bin .quo (.t 10) (.c (.int .i64 8))),
 o0 12 (.bin .add (.c (.int .i64 2)) (.t 11)),o3 2 12]) .ret) (.seq (.seq (.region [1,4,13] [o0 14 (.bin .eql (.t 4) (.c (.int .u8 4))),o3 13 14]) (.cond (.t 13) .skip (.region [1,4,13] [o0 15 (.bin .eql (.t 4) (.c (.int .u8 5))),o3 13 15]))) (.cond (.t 13) (.seq (.seq (.region [1,18] [o5 16 3 1,o4 17 16,
 o0 18 (.bin .eql (.t 17) (.c (.int .i64 0)))]) (.cond (.t 18) (.seq (.region [2] [o0 2 (.mv (.c (.int .i64 3)))]) .ret) .skip)) (.seq (.region [2] [o5 19 3 1,o4 20 19,
 o0 21 (.bin .mul (.c (.int .i64 2)) (.t 20)),
 o0 22 (.bin .add (.c (.int .i64 4)) (.t 21)),o3 2 22]) .ret)) (.seq (.region [1,23] [o0 24 (.bin .eql (.t 4) (.c (.int .u8 6))),o3 23 24]) (.cond (.t 23) (.seq (.region [2] [o5 25 2 1,o4 26 25,o8 27 26,
 o0 28 (.bin .mul (.c (.int .i64 2)) (.t 27)),
 o0 29 (.bin .add (.c (.int .i64 2)) (.t 28)),o3 2 29]) .ret) .skip)))))))) (.seq (.region [2] [o0 2 (.mv (.c (.int .i64 3)))]) .ret)))⟩
def ztw:zab:=
 ⟨[.cell 2 (some 2)],(.seq (.region [0,2] [o0 2 (.alloc [(.int .u8 0),(.int .i64 0)])]) (.seq (.region [2] [o3 3 0,
 o0 4 (.bin .sub (.c (.int .i64 (-1000))) (.t 3)),
 o0 5 (.build [(.int .u8 0),(.int .i64 0)] [(1,1,(.t 4))]),
 o2 (.store 2 (.t 2) (.t 5))]) .ret))⟩
def ztu:zab:=
 ⟨[.cell 2 (some 5)],(.seq (.region [0,2] [o0 2 (.alloc [(.int .u8 0),(.string .empty),(.slice none 0 0),(.int .i64 0),(.int .i64 0)])]) (.seq (.region [2] [o3 3 0,
 o0 4 (.call .view 422 [.t 3]),
 o0 5 (.build [(.int .u8 0),(.string .empty),(.slice none 0 0),(.int .i64 0),(.int .i64 0)] [(1,1,(.t 4))]),
 o2 (.store 5 (.t 2) (.t 5))]) .ret))⟩
@[simp] def ygu(n0:Nat)(n1:Nat):zab:=
 ⟨[.tmp 4],(.seq (.region [1,2] [o0 2 (.box n0 (.t 0)),o0 4 (.mv (.c (.bool false)))]) (.seq (.region [4] [o5 5 n1 2,o4 6 5,o3 7 1,o0 8 (.bin .sub (.c (.int .i64 (-1000))) (.t 7)),o0 9 (.bin .eql (.t 6) (.t 8)),o3 4 9]) .ret))⟩
def zts:zab:=
 ygu 2 1
@[simp] def ygv(n0:Nat)(n1:Nat):zab:=
 ⟨[.tmp 4],(.seq (.region [1,2] [o0 2 (.box n0 (.t 0)),o0 4 (.mv (.c (.bool false)))]) (.seq (.region [4] [o5 5 n1 2,o4 6 5,o3 7 1,o0 8 (.call .view 422 [.t 7]),o0 9 (.bin .eql (.t 6) (.t 8)),o3 4 9]) .ret))⟩
def ztq:zab:=
 ygv 5 1
def ztx:zab:=
 ⟨[.tmp 2],(.seq (.region [0] [o0 2 (.mv (.c (.string .empty)))]) (.seq (.region [2] [o3 3 0,
 o0 4 (.call .view 786 [.t 3]),
 o0 5 (.bin .add (.c (.string ⟨#[35]⟩)) (.t 4)),o3 2 5]) .ret))⟩
set_option linter.unusedSimpArgs false
attribute [simp] List.range_succ zv6 z73 z71 z72 z7z z70 z74 z7y zvd andThen zbn za9 zag Env.ev Env.get Env.keep enter AV.cells fresh loadAt zdw zf9 zm8 zl1 zrh zm3 zsl zp1 zdd zin zio
 storeAt zdx zha XRes.outs XRes.asIs zwg zdk zgx zhk order reach Mem.refs AObj.refs AV.refs AV.refs.refsL Mem.pickAll AObj.ren AV.ren AV.ren.renL place zco zbp imZ zcy St.tidy Env.roots Env.ren AV.plain1 AV.plain2 AV.plain AV.own1 AV.own2 AV.own IV.plain AObj.own AObj.live AV.isImm zl7 zbl zbk zb2 zgh AObj.isFix zdc zbg frz frz.frz1 za5 AObj.moved AObj.orMoved zd1 St.scrub zg9 zih
@[simp] theorem yln:lenOf (.imm (.val (.slice none 0 0)))=some 0:=rfl
@[simp] theorem ylp(row:List IV)(off len:Nat)(cap:Option Nat):lenOf (.imm (.slice row off len cap))=some len:=rfl
@[simp] theorem ylo(id off sz len:Nat)(cap:Option Nat):lenOf (.osl id off sz len cap)=some len:=rfl
@[simp] theorem ykx(row:List IV)(off len:Nat)(cap:Option Nat):zob (.imm (.slice row off len cap))=cap:=rfl
@[simp] theorem ykw(id off sz len:Nat)(cap:Option Nat):zob (.osl id off sz len cap)=cap:=rfl
@[simp] theorem yll(row:List IV)(off len:Nat)(cap:Option Nat):ze3 (.imm (.slice row off len cap))=some false:=rfl
@[simp] theorem ylk(row:List IV)(off:Nat):ze3 (.imm (.ptr row off))=some false:=rfl
@[simp] theorem yli(id off sz len:Nat)(cap:Option Nat):ze3 (.osl id off sz len cap)=some false:=rfl
@[simp] theorem ylh(id off:Nat):ze3 (.optr id off)=some false:=rfl
@[simp] theorem ylg(id:Nat):ze3 (.omap id)=some false:=rfl
@[simp] theorem ylj:ze3 (.imm (.val (.pointer none)))=some true:=rfl
@[simp] theorem ylc:zgs 0 (.imm (.val (.slice none 0 0)))=some true:=rfl
@[simp] theorem ylb(row:List IV)(off len:Nat)(cap:Option Nat):zgs 0 (.imm (.slice row off len cap))=some false:=rfl
@[simp] theorem yk8(id off sz len:Nat)(cap:Option Nat):zgs 0 (.osl id off sz len cap)=some false:=rfl
@[simp] theorem yk9:zgs 1 (.imm (.val (.pointer none)))=some true:=rfl
@[simp] theorem yla(row:List IV)(off:Nat):zgs 1 (.imm (.ptr row off))=some false:=rfl
@[simp] theorem yk7(id off:Nat):zgs 1 (.optr id off)=some false:=rfl
@[simp] theorem yk6(a b:Int):(a==b)=decide (a=b):=by by_cases h:a=b<;>simp[h]
theorem z65{a b:ByteArray}(h:a.toList=b.toList):a=b:=by
 have e:∀c:ByteArray,c.toList=c.data.toList:=ByteArray.toList_eq
 rw[e,e]at h
 cases a;cases b
 simp at h
 exact congrArg ByteArray.mk h
@[simp] theorem bytes_beq(a b:ByteArray):(a.toList==b.toList)=decide (a=b):=by
 by_cases h:a=b
 ·subst h;simp
 ·have:a.toList≠b.toList:=fun e=>h (z65 e)
  simp[h,this]
@[simp] theorem yk5{β:Type}(l:List β):cut l 0 0=some []:=by simp[cut]
@[simp] theorem yk4{β:Type}(x:β)(l:List β)(n:Nat):cut (x::l) 0 (n+1)=(cut l 0 n).map (x:: ·):=by
 simp only[cut,xc5,List.take_succ_cons,xax]
 by_cases h:(l.take n).length=n
 ·rw[if_pos h,if_pos (by omega)];rfl
 ·rw[if_neg h,if_neg (by omega)];rfl
@[simp] theorem yk3{β:Type}(x:β)(l:List β)(o n:Nat):cut (x::l) (o+1) n=cut l o n:=by simp[cut]
@[simp] theorem ymk{β:Type}(l:List β)(o:Nat):setAll l o []=l:=rfl
@[simp] theorem z36{β:Type}(x:β):∀(ys l:List β) (o:Nat),setAll (x::l) (o+1) ys=x::setAll l o ys
 |[],l,o=>rfl
 |y::ys,l,o=>by rw[setAll,xcg,z36 x ys];rfl
@[simp] theorem ymj{β:Type}(x y:β)(l ys:List β):setAll (x::l) 0 (y::ys)=y::setAll l 0 ys:=by
 rw[setAll,List.set_cons_zero,z36]
@[simp] theorem z1k:∀(l:List IV),zdx (l.map .imm)=some l
 |[]=>rfl
 |x::l=>by simp[zdx,z1k l]
@[simp] theorem yky{β:Type}(l:List β):zaq 0 l=[]:=rfl
@[simp] theorem ykz{β:Type}(l:List β):zaq 1 l=l:=by simp[zaq]
@[simp] theorem yk0{β:Type}(l:List β):zaq 2 l=l++l:=by simp[zaq]
@[simp] theorem yk1{β:Type}(l:List β):zaq 3 l=l++(l++l):=by simp[zaq]
@[simp] theorem yk2{β:Type}(l:List β):zaq 4 l=l++(l++(l++l)):=by simp[zaq]
def Ty.row{α:Type}(t:Ty α)(xs:List α):List IV:=xs.flatMap t.enc
abbrev zae:AV:=.imm (.val (.slice none 0 0))
abbrev zaa(n:Int):AV:=.imm (.val (.int .i64 n))
abbrev avb(b:Bool):AV:=.imm (.val (.bool b))
theorem zbu{code:Nat->Option zab}{ext:zac}{keep:List Nat}{b:XCode}(I:Nat->St->Prop)(Q:XExit->St->Prop)
  (h:∀n s,I n s->∃e s',den code ext b (s.tidy keep)=some (e,s')/\((e=.normal/\∃m,m<n/\I m s')\/(e≠ .normal/\Q e s'))):∀n s,I n s->∃e s',den code ext (.loop keep b) s=some (e,s')/\e≠ .normal/\Q e s':=by
 intro n
 induction n using Nat.strongRecOn with
 |ind n ih=>
  intro s hs
  obtain⟨e,s',h1,h2⟩:=h n s hs
  rw[zfi,h1]
  rcases h2 with⟨rfl,m,hm,hI⟩|⟨hne,hq⟩
  ·exact ih m hm s' hI
  ·refine⟨e,s',?_,hne,hq⟩
   cases e with
   |normal=>exact absurd rfl hne
   |exit id=>rfl
   |ret=>rfl
theorem zaw{x:Int}(h1: -9223372036854775808<=x)(h2:x<=9223372036854775807):IntKind.wrap .i64 x=x:=by
 simp only[IntKind.wrap,IntKind.signed,IntKind.bits]
 simp
 omega
theorem wfI64{n:Int}:(zcs .i64).wf n↔ -9223372036854775808<=n/\n<=9223372036854775807:=by
 simp[zcs,Lit.wf,IntKind.min,IntKind.max,IntKind.signed,IntKind.bits]
theorem wfU8{n:Int}:(zcs .u8).wf n↔0<=n/\n<=255:=by
 simp[zcs,Lit.wf,IntKind.min,IntKind.max,IntKind.signed,IntKind.bits]
section
variable {α:Type} {t:Ty α} {iv:IV} {xs:List α}
theorem zau(h:zak t iv xs):lenOf (.imm iv)=some xs.length:=by
 obtain⟨_,_,⟨rfl,rfl⟩|⟨row,off,cap,rfl,_⟩⟩:=h
 ·rfl
 ·rfl
theorem zz6{β:Type}{l:List β}{o n:Nat}{r:List β}(h:cut l o n=some r):r=(l.drop o).take n/\r.length=n:=by
 unfold cut at h
 dsimp only at h
 split at h
 ·rename_i h1;cases h;exact⟨rfl,h1⟩
 ·cases h
theorem zvm{β:Type}{l:List β}{o n:Nat}{r:List β}(h:(l.drop o).take n=r)(hl:r.length=n):cut l o n=some r:=by
 unfold cut
 dsimp only
 rw[h,if_pos hl]
theorem zoe{β:Type}{l:List β}{o n:Nat}{r:List β}(h:cut l o n=some r){a b:Nat}(hab:a+b<=n):cut l (o+a) b=cut r a b:=by
 obtain⟨rfl,hl⟩:=zz6 h
 unfold cut
 dsimp only
 rw[List.drop_take,List.drop_drop,List.take_take]
 have:min b (n-a)=b:=by omega
 rw[this]
theorem z0v(h0:∀x,(t.enc x).length=t.sz):∀(xs:List α) (i k:Nat),i+k<=xs.length->cut (xs.flatMap t.enc) (i*t.sz) (k*t.sz)=some (((xs.drop i).take k).flatMap t.enc):=by
 intro xs i k hk
 refine zvm ?_ ?_
 ·have hdrop:∀(i:Nat) (l:List α),(l.flatMap t.enc).drop (i*t.sz)=(l.drop i).flatMap t.enc:=by
   intro i
   induction i with
   |zero=>intro l;simp
   |succ i ih=>
    intro l
    cases l with
    |nil=>simp
    |cons x l=>
     rw[xct,Nat.add_mul,xc4,Nat.add_comm,List.drop_append]
     have hx:=h0 x
     rw[xcs (by omega)]
     have:t.sz+i*t.sz-(t.enc x).length=i*t.sz:=by omega
     rw[this,ih];simp
  have htake:∀(k:Nat) (l:List α),(l.flatMap t.enc).take (k*t.sz)=(l.take k).flatMap t.enc:=by
   intro k
   induction k with
   |zero=>intro l;simp
   |succ i ih=>
    intro l
    cases l with
    |nil=>simp
    |cons x l=>
     rw[xct,Nat.add_mul,xc4,Nat.add_comm,List.take_append]
     have hx:=h0 x
     rw[List.take_of_length_le (by omega)]
     have:t.sz+i*t.sz-(t.enc x).length=i*t.sz:=by omega
     rw[this,ih];simp
  rw[hdrop,htake]
 ·rw[zok _ _ h0]
  simp only[xb7,List.length_drop]
  congr 1
  omega
theorem zca(t:Ty α)(xs:List α):(t.row xs).length=xs.length*t.sz:=zok _ _ t.len xs
theorem zec(t:Ty α)(xs:List α):cut (t.row xs) 0 (xs.length*t.sz)=some (t.row xs):=zdv _ (zca t xs)
theorem z3o(t:Ty α)(xs ys:List α):t.row (xs++ys)=t.row xs++t.row ys:=by simp[Ty.row]
theorem ze1{i:Nat}{x:α}(hx:xs[i]?=some x):cut (t.row xs) (i*t.sz) t.sz=some (t.enc x):=by
 obtain⟨hi,hxi⟩:=xab.1 hx
 have:=z0v t.len xs i 1 hi
 rw[xc4]at this
 rw[Ty.row,this,xbl hi,hxi]
 simp
theorem zbv(h:zak t iv xs){i:Nat}{x:α}(hx:xs[i]?=some x):∃row off cap,iv=.slice row off xs.length cap/\(∀c,cap=some c->xs.length<=c)/\cut row off (xs.length*t.sz)=some (xs.flatMap t.enc)/\
  cut row (off+i*t.sz) t.sz=some (t.enc x):=by
 obtain⟨_,_,⟨rfl,rfl⟩|⟨row,off,cap,rfl,hc,hcut⟩⟩:=h
 ·simp at hx
 ·refine⟨row,off,cap,rfl,hc,hcut,?_⟩
  have hi:=(xab.1 hx)
  obtain⟨hi,hxi⟩:=hi
  have:i*t.sz+t.sz<=xs.length*t.sz:=by
   rw[<-Nat.succ_mul];exact xb6 _ hi
  rw[zoe hcut this]
  have:=z0v t.len xs i 1 hi
  rw[xc4]at this
  rw[this]
  congr 1
  rw[xbl hi,hxi]
  simp
theorem zz5{β:Type}{l:List β}{o:Nat}{y:β}(h:cut l o 1=some [y]):l[o]?=some y:=by
 obtain⟨h1,_⟩:=zz6 h
 have:((l.drop o).take 1)[0]?=some y:=by rw[<-h1];rfl
 rw[xce,if_pos (by omega),xbv]at this
 simpa using this
theorem zi0(t:Ty α)(xs:List α){cap:Option Nat}(hw:∀x∈xs,t.wf x)(hl:xs.length<=140737488355328)(hc:∀c,cap=some c->xs.length<=c):zak t (.slice (t.row xs) 0 xs.length cap) xs:=
 ⟨hw,hl,.inr ⟨_,0,cap,rfl,hc,zdv _ (zca t xs)⟩⟩
theorem zq5(m:Mem)(h:zak t iv xs):elems m t.sz (.imm iv)=some (xs.length,t.row xs):=by
 obtain⟨hw,hm,⟨rfl,rfl⟩|⟨row,off,cap,rfl,hc,hcut⟩⟩:=h
 ·rfl
 ·simp only[elems,hcut,xao,Ty.row]
theorem z38{β:Type}:∀(l ys:List β),l.length=ys.length->setAll l 0 ys=ys:=by
 intro l ys h
 refine xbf fun j=>?_
 rw[zi5]
 split
 ·simp
 ·rename_i hn
  have:ys.length<=j:=by omega
  rw[xaq (by omega),xaq this]
theorem zsb{β:Type}:∀(ys l:List β) (o j:Nat),o+ys.length<=l.length->(setAll l o ys)[j]?=if o<=j/\j<o+ys.length then ys[j-o]? else l[j]?
 |[],l,o,j,h=>by simp[setAll];omega
 |y::ys,l,o,j,h=>by
  simp only[xax]at h ⊢
  rw[setAll,zsb ys (l.set o y) (o+1) j (by rw[xb8];omega),List.getElem?_set]
  by_cases h1:o=j
  ·subst h1
   have e1:¬(o+1<=o/\o<o+1+ys.length):=by omega
   rw[if_neg e1,if_pos rfl,if_pos (by omega),if_pos (by omega)]
   simp
  ·by_cases h2:o+1<=j/\j<o+1+ys.length
   ·have e3:j-o=(j-(o+1))+1:=by omega
    rw[if_pos h2,if_pos (by omega),e3]
    simp
   ·rw[if_neg h2,if_neg h1,if_neg (by omega)]
theorem zsc(h0:0<t.sz){i:Nat}(hi:i<xs.length)(x:α):setAll (t.row xs) (i*t.sz) (t.enc x)=t.row (xs.set i x):=by
 unfold Ty.row
 have hle:i*t.sz+(t.enc x).length<=(xs.flatMap t.enc).length:=by
  rw[zok _ _ t.len,t.len,<-Nat.succ_mul]
  exact xb6 _ hi
 refine xbf fun j=>?_
 rw[zsb _ _ _ _ hle,zq9 _ _ h0 t.len,zq9 _ _ h0 t.len,t.len,List.getElem?_set]
 by_cases h:i*t.sz<=j/\j<i*t.sz+t.sz
 ·have h1:j / t.sz=i:=by
   exact Nat.div_eq_of_lt_le h.1 (by rw[Nat.add_mul,xc4];exact h.2)
  have h2:j%t.sz=j-i*t.sz:=by
   have:=Nat.div_add_mod j t.sz
   rw[h1,Nat.mul_comm]at this
   omega
  rw[if_pos h,h1,h2,if_pos rfl,if_pos hi];rfl
 ·have h1:¬(i=j / t.sz):=by
   intro e
   have h2:=Nat.div_add_mod j t.sz
   have h3:=Nat.mod_lt j h0
   rw[<-e,Nat.mul_comm]at h2
   omega
  rw[if_neg h,if_neg h1]
theorem zvk(n:Nat)(x:α):zaq n (t.enc x)=t.row (List.replicate n x):=by
 unfold Ty.row
 induction n with
 |zero=>rfl
 |succ n ih=>simp[zaq,List.replicate_succ,ih]
end
end Go.EX

