import Derived.Test.YtedddogbgdbpmaaDoorK8
import Derived.Test.YtedddogbgdbpmaaDoorK11
namespace Go.EX
def x1 : XFun :=
 ⟨[.tmp 2],(.seq (.region [0] [⟨some 2,.mv (.c (.bool false)),none⟩]) (.seq (.region [0] [⟨some 3,.mv (.t 0),none⟩,
 ⟨some 4,.call .share 25 [.t 3],none⟩]) (.seq (.region [0] [⟨some 5,.mv (.t 0),none⟩,
 ⟨some 6,.call .share 29 [.t 5],none⟩]) (.seq (.region [0] [⟨some 7,.mv (.t 0),none⟩,
 ⟨some 8,.call .share 33 [.t 7],none⟩]) (.seq (.region [0] [⟨some 9,.mv (.t 0),none⟩,
 ⟨some 10,.call .share 34 [.t 9],none⟩]) (.seq (.region [0] [⟨some 11,.mv (.t 0),none⟩,
 ⟨some 12,.call .share 28 [.t 11],none⟩]) (.seq (.region [0] [⟨some 13,.mv (.t 0),none⟩,
 ⟨some 14,.call .share 24 [.t 13],none⟩]) (.seq (.region [0] [⟨some 15,.mv (.t 0),none⟩,
 ⟨some 16,.call .share 18 [.t 15],none⟩]) (.seq (.region [0] [⟨some 17,.mv (.t 0),none⟩,
 ⟨some 18,.call .share 17 [.t 17],none⟩]) (.seq (.region [0] [⟨some 19,.mv (.t 0),none⟩,
 ⟨some 20,.call .share 23 [.t 19],none⟩]) (.seq (.region [0] [⟨some 21,.mv (.t 0),none⟩,
 ⟨some 22,.call .share 22 [.t 21],none⟩]) (.seq (.region [0] [⟨some 23,.mv (.t 0),none⟩,
 ⟨some 24,.call .share 21 [.t 23],none⟩]) (.seq (.region [0] [⟨some 25,.mv (.t 0),none⟩,
 ⟨some 26,.call .share 32 [.t 25],none⟩]) (.seq (.region [0] [⟨some 27,.mv (.t 0),none⟩,
 ⟨some 28,.call .share 35 [.t 27],none⟩]) (.seq (.region [0] [⟨some 29,.mv (.t 0),none⟩,
 ⟨some 30,.call .share 30 [.t 29],none⟩]) (.seq (.region [0] [⟨some 31,.mv (.t 0),none⟩,
 ⟨some 32,.call .share 26 [.t 31],none⟩]) (.seq (.region [0] [⟨some 33,.mv (.t 0),none⟩,
 ⟨some 34,.call .share 20 [.t 33],none⟩]) (.seq (.region [0] [⟨some 35,.mv (.t 0),none⟩,
 ⟨some 36,.call .share 19 [.t 35],none⟩]) (.seq (.region [0] [⟨some 37,.mv (.t 0),none⟩,
 ⟨some 38,.call .share 27 [.t 37],none⟩]) (.seq (.region [0] [⟨some 39,.mv (.t 0),none⟩,
 ⟨some 40,.call .share 16 [.t 39],none⟩]) (.seq (.region [0] [⟨some 41,.mv (.t 0),none⟩,
 ⟨some 42,.call .share 31 [.t 41],none⟩]) (.seq (.region [0] [⟨some 43,.mv (.t 0),none⟩,
 ⟨some 44,.call .share 45 [.t 43],none⟩]) (.seq (.region [0] [⟨some 45,.mv (.t 0),none⟩,
 ⟨some 46,.call .share 49 [.t 45],none⟩]) (.seq (.region [0] [⟨some 47,.mv (.t 0),none⟩,
 ⟨some 48,.call .share 53 [.t 47],none⟩]) (.seq (.region [0] [⟨some 49,.mv (.t 0),none⟩,
 ⟨some 50,.call .share 54 [.t 49],none⟩]) (.seq (.region [0] [⟨some 51,.mv (.t 0),none⟩,
 ⟨some 52,.call .share 48 [.t 51],none⟩]) (.seq (.region [0] [⟨some 53,.mv (.t 0),none⟩,
 ⟨some 54,.call .share 44 [.t 53],none⟩]) (.seq (.region [0] [⟨some 55,.mv (.t 0),none⟩,
 ⟨some 56,.call .share 38 [.t 55],none⟩]) (.seq (.region [0] [⟨some 57,.mv (.t 0),none⟩,
 ⟨some 58,.call .share 37 [.t 57],none⟩]) (.seq (.region [0] [⟨some 59,.mv (.t 0),none⟩,
 ⟨some 60,.call .share 43 [.t 59],none⟩]) (.seq (.region [0] [⟨some 61,.mv (.t 0),none⟩,
 ⟨some 62,.call .share 42 [.t 61],none⟩]) (.seq (.region [0] [⟨some 63,.mv (.t 0),none⟩,
 ⟨some 64,.call .share 41 [.t 63],none⟩]) (.seq (.region [0] [⟨some 65,.mv (.t 0),none⟩,
 ⟨some 66,.call .share 52 [.t 65],none⟩]) (.seq (.region [0] [⟨some 67,.mv (.t 0),none⟩,
 ⟨some 68,.call .share 55 [.t 67],none⟩]) (.seq (.region [0] [⟨some 69,.mv (.t 0),none⟩,
 ⟨some 70,.call .share 50 [.t 69],none⟩]) (.seq (.region [0] [⟨some 71,.mv (.t 0),none⟩,
 ⟨some 72,.call .share 46 [.t 71],none⟩]) (.seq (.region [0] [⟨some 73,.mv (.t 0),none⟩,
 ⟨some 74,.call .share 40 [.t 73],none⟩]) (.seq (.region [0] [⟨some 75,.mv (.t 0),none⟩,
 ⟨some 76,.call .share 39 [.t 75],none⟩]) (.seq (.region [0] [⟨some 77,.mv (.t 0),none⟩,
 ⟨some 78,.call .share 47 [.t 77],none⟩]) (.seq (.region [0] [⟨some 79,.mv (.t 0),none⟩,
 ⟨some 80,.call .share 36 [.t 79],none⟩]) (.seq (.region [0] [⟨some 81,.mv (.t 0),none⟩,
 ⟨some 82,.call .share 51 [.t 81],none⟩]) (.seq (.region [2] [⟨some 83,.mv (.t 0),none⟩,
 ⟨some 84,.call .share 75 [.t 83],none⟩,
 ⟨some 85,.mv (.t 84),none⟩,
 ⟨some 86,.mv (.t 0), some (85, true)⟩,
 ⟨some 87,.call .share 79 [.t 86], some (85, true)⟩,
 ⟨some 88,.pick (.t 85) (.t 87) (.c (.bool false)),none⟩,
 ⟨some 89,.mv (.t 88),none⟩,
 ⟨some 90,.mv (.t 0), some (89, true)⟩,
 ⟨some 91,.call .share 83 [.t 90], some (89, true)⟩,
 ⟨some 92,.pick (.t 89) (.t 91) (.c (.bool false)),none⟩,
 ⟨some 93,.mv (.t 92),none⟩,
 ⟨some 94,.mv (.t 0), some (93, true)⟩,
 ⟨some 95,.call .share 84 [.t 94], some (93, true)⟩,
 ⟨some 96,.pick (.t 93) (.t 95) (.c (.bool false)),none⟩,
 ⟨some 97,.mv (.t 96),none⟩,
 ⟨some 98,.mv (.t 0), some (97, true)⟩,
 ⟨some 99,.call .share 78 [.t 98], some (97, true)⟩,
 ⟨some 100,.pick (.t 97) (.t 99) (.c (.bool false)),none⟩,
 ⟨some 101,.mv (.t 100),none⟩,
 ⟨some 102,.mv (.t 0), some (101, true)⟩,
 ⟨some 103,.call .share 74 [.t 102], some (101, true)⟩,
 ⟨some 104,.pick (.t 101) (.t 103) (.c (.bool false)),none⟩,
 ⟨some 105,.mv (.t 104),none⟩,
 ⟨some 106,.mv (.t 0), some (105, true)⟩,
 ⟨some 107,.call .share 68 [.t 106], some (105, true)⟩,
 ⟨some 108,.pick (.t 105) (.t 107) (.c (.bool false)),none⟩,
 ⟨some 109,.mv (.t 108),none⟩,
 ⟨some 110,.mv (.t 0), some (109, true)⟩,
 ⟨some 111,.call .share 67 [.t 110], some (109, true)⟩,
 ⟨some 112,.pick (.t 109) (.t 111) (.c (.bool false)),none⟩,
 ⟨some 113,.mv (.t 112),none⟩,
 ⟨some 114,.mv (.t 0), some (113, true)⟩,
 ⟨some 115,.call .share 73 [.t 114], some (113, true)⟩,
 ⟨some 116,.pick (.t 113) (.t 115) (.c (.bool false)),none⟩,
 ⟨some 117,.mv (.t 116),none⟩,
 ⟨some 118,.mv (.t 0), some (117, true)⟩,
 ⟨some 119,.call .share 72 [.t 118], some (117, true)⟩,
 ⟨some 120,.pick (.t 117) (.t 119) (.c (.bool false)),none⟩,
 ⟨some 121,.mv (.t 120),none⟩,
 ⟨some 122,.mv (.t 0), some (121, true)⟩,
 ⟨some 123,.call .share 71 [.t 122], some (121, true)⟩,
 ⟨some 124,.pick (.t 121) (.t 123) (.c (.bool false)),none⟩,
 ⟨some 125,.mv (.t 124),none⟩,
 ⟨some 126,.mv (.t 0), some (125, true)⟩,
 ⟨some 127,.call .share 82 [.t 126], some (125, true)⟩,
 ⟨some 128,.pick (.t 125) (.t 127) (.c (.bool false)),none⟩,
 ⟨some 129,.mv (.t 128),none⟩,
 ⟨some 130,.mv (.t 0), some (129, true)⟩,
 ⟨some 131,.call .share 85 [.t 130], some (129, true)⟩,
 ⟨some 132,.pick (.t 129) (.t 131) (.c (.bool false)),none⟩,
 ⟨some 133,.mv (.t 132),none⟩,
 ⟨some 134,.mv (.t 0), some (133, true)⟩,
 ⟨some 135,.call .share 80 [.t 134], some (133, true)⟩,
 ⟨some 136,.pick (.t 133) (.t 135) (.c (.bool false)),none⟩,
 ⟨some 137,.mv (.t 136),none⟩,
 ⟨some 138,.mv (.t 0), some (137, true)⟩,
 ⟨some 139,.call .share 76 [.t 138], some (137, true)⟩,
 ⟨some 140,.pick (.t 137) (.t 139) (.c (.bool false)),none⟩,
 ⟨some 141,.mv (.t 140),none⟩,
 ⟨some 142,.mv (.t 0), some (141, true)⟩,
 ⟨some 143,.call .share 70 [.t 142], some (141, true)⟩,
 ⟨some 144,.pick (.t 141) (.t 143) (.c (.bool false)),none⟩,
 ⟨some 145,.mv (.t 144),none⟩,
 ⟨some 146,.mv (.t 0), some (145, true)⟩,
 ⟨some 147,.call .share 69 [.t 146], some (145, true)⟩,
 ⟨some 148,.pick (.t 145) (.t 147) (.c (.bool false)),none⟩,
 ⟨some 149,.mv (.t 148),none⟩,
 ⟨some 150,.mv (.t 0), some (149, true)⟩,
 ⟨some 151,.call .share 77 [.t 150], some (149, true)⟩,
 ⟨some 152,.pick (.t 149) (.t 151) (.c (.bool false)),none⟩,
 ⟨some 153,.mv (.t 152),none⟩,
 ⟨some 154,.mv (.t 0), some (153, true)⟩,
 ⟨some 155,.call .share 66 [.t 154], some (153, true)⟩,
 ⟨some 156,.pick (.t 153) (.t 155) (.c (.bool false)),none⟩,
 ⟨some 157,.mv (.t 156),none⟩,
 ⟨some 158,.mv (.t 0), some (157, true)⟩,
 ⟨some 159,.call .share 81 [.t 158], some (157, true)⟩,
 ⟨some 160,.pick (.t 157) (.t 159) (.c (.bool false)),none⟩,
 ⟨some 2,.mv (.t 160),none⟩]) .ret))))))))))))))))))))))))))))))))))))))))))⟩
@[simp] def sameC11z1f (n0 : Nat) : XFun :=
 ⟨[],(.seq (.region [0, 1] [o0 4 (.mv (.t 0)),o0 5 (.nilCheck (.t 4)),o0 6 (.fieldA 0 (.t 5)),o0 7 (.load none (.t 6)),o0 8 (.bin .add (.t 7) (.c (.int .i64 1))),o0 9 (.nilCheck (.t 4)),o0 10 (.fieldA 0 (.t 9)),o2 (.store 1 (.t 10) (.t 8))]) (.region [] [o0 11 (.mv (.t 0)),o0 12 (.mv (.t 0)),o0 13 (.nilCheck (.t 12)),o0 14 (.fieldA n0 (.t 13)),o0 15 (.load none (.t 14)),o0 16 (.mv (.t 1)),o0 17 (.mv (.t 0)),o0 18 (.nilCheck (.t 17)),o0 19 (.fieldA 0 (.t 18)),o0 20 (.load none (.t 19)),o0 21 (.build [(.slice none 0 0),(.slice none 0 0),(.int .i64 0)] [(0, 1,(.t 16)),(2, 1,(.t 20))]),o0 22 (.buildSlice 3 [(.slice none 0 0),(.slice none 0 0),(.int .i64 0)] 1 [(0, 3,(.t 21))]),o0 23 (.append 3 56 (.t 15) (.t 22)),o0 24 (.nilCheck (.t 11)),o0 25 (.fieldA n0 (.t 24)),o2 (.store 1 (.t 25) (.t 23))]))⟩
@[simp] def sameC11z2c (n0 : Nat) (n1 : Nat) : XCode :=
 (.seq (.seq (.region [0, 2, 3, 4, 25] [o0 21 (.mv (.t 4)),o0 22 (.fieldA 0 (.t 3)),o0 23 (.load none (.t 22)),o0 24 (.len (.t 23)),o0 25 (.bin .lss (.t 21) (.t 24))]) (.cond (.t 25) .skip (.exit 2))) (.seq (.block 3 (.region [0, 2, 3, 4] [o0 28 (.fieldA 0 (.t 3)),o0 29 (.load none (.t 28)),o0 30 (.mv (.t 4)),o0 31 (.fieldA 2 (.t 3)),o0 32 (.load none (.t 31)),o0 33 (.call .view n0 [.t 32]),o0 34 (.idxA n1 (.t 29) (.t 30)),o2 (.store n1 (.t 34) (.t 33))])) (.region [0, 2, 3, 4] [o0 26 (.mv (.t 4)),o0 27 (.bin .add (.t 26) (.c (.int .i64 1))),o0 4 (.mv (.t 27))])))
@[simp] def sameC11z3c (n0 : Nat) (c1 : XCode) : XCode :=
 (.seq (.seq (.region [0, 2, 11] [o0 5 (.mv (.t 2)),o0 6 (.mv (.t 0)),o0 7 (.nilCheck (.t 6)),o0 8 (.fieldA n0 (.t 7)),o0 9 (.load none (.t 8)),o0 10 (.len (.t 9)),o0 11 (.bin .lss (.t 5) (.t 10))]) (.cond (.t 11) .skip (.exit 0))) (.seq (.block 1 (.seq (.region [0, 2, 3] [o0 14 (.mv (.t 0)),o0 15 (.nilCheck (.t 14)),o0 16 (.fieldA n0 (.t 15)),o0 17 (.load none (.t 16)),o0 18 (.mv (.t 2)),o0 19 (.idxA 3 (.t 17) (.t 18)),o0 20 (.load (some 3) (.t 19)),o0 3 (.alloc [(.slice none 0 0),(.slice none 0 0),(.int .i64 0)]),o2 (.store 3 (.t 3) (.t 20))]) (.seq (.region [0, 2, 3, 4] [o0 4 (.mv (.c (.int .i64 0)))]) (.block 2 (.loop [0, 2, 3, 4] c1))))) (.region [0, 2] [o0 12 (.mv (.t 2)),o0 13 (.bin .add (.t 12) (.c (.int .i64 1))),o0 2 (.mv (.t 13))])))
@[simp] def sameC11z4f (c0 : XCode) : XFun :=
 ⟨[],(.seq (.region [0, 2] [o0 2 (.mv (.c (.int .i64 0)))]) (.block 0 (.loop [0, 2] c0)))⟩
@[simp] def sameC11z5c (n0 : Nat) : XCode :=
 (.seq (.seq (.region [0, 2, 3, 4, 5, 25] [o0 24 (.mv (.t 5)),o0 25 (.bin .lss (.t 24) (.c (.int .i64 40)))]) (.cond (.t 25) .skip (.exit 2))) (.seq (.block 3 (.region [0, 2, 3, 4, 5] [o0 28 (.mv (.t 4)),o0 29 (.fieldA 2 (.t 3)),o0 30 (.load none (.t 29)),o0 31 (.call .view n0 [.t 30]),o0 32 (.buildSlice 1 [(.int .i64 0)] 1 [(0, 1,(.t 31))]),o0 33 (.append 1 8 (.t 28) (.t 32)),o0 4 (.mv (.t 33))])) (.region [0, 2, 3, 4, 5] [o0 26 (.mv (.t 5)),o0 27 (.bin .add (.t 26) (.c (.int .i64 1))),o0 5 (.mv (.t 27))])))
@[simp] def sameC11z6c (n0 : Nat) (c1 : XCode) : XCode :=
 (.seq (.seq (.region [0, 2, 12] [o0 6 (.mv (.t 2)),o0 7 (.mv (.t 0)),o0 8 (.nilCheck (.t 7)),o0 9 (.fieldA n0 (.t 8)),o0 10 (.load none (.t 9)),o0 11 (.len (.t 10)),o0 12 (.bin .lss (.t 6) (.t 11))]) (.cond (.t 12) .skip (.exit 0))) (.seq (.block 1 (.seq (.region [0, 2, 3] [o0 15 (.mv (.t 0)),o0 16 (.nilCheck (.t 15)),o0 17 (.fieldA n0 (.t 16)),o0 18 (.load none (.t 17)),o0 19 (.mv (.t 2)),o0 20 (.idxA 3 (.t 18) (.t 19)),o0 21 (.load (some 3) (.t 20)),o0 3 (.alloc [(.slice none 0 0),(.slice none 0 0),(.int .i64 0)]),o2 (.store 3 (.t 3) (.t 21))]) (.seq (.region [0, 2, 3, 4] [o0 22 (.fieldA 0 (.t 3)),o0 23 (.load none (.t 22)),o0 4 (.mv (.t 23))]) (.seq (.seq (.region [0, 2, 3, 4, 5] [o0 5 (.mv (.c (.int .i64 0)))]) (.block 2 (.loop [0, 2, 3, 4, 5] c1))) (.region [0, 2] [o0 34 (.mv (.t 0)),o0 35 (.nilCheck (.t 34)),o0 36 (.fieldA n0 (.t 35)),o0 37 (.load none (.t 36)),o0 38 (.mv (.t 2)),o0 39 (.mv (.t 4)),o0 40 (.idxA 3 (.t 37) (.t 38)),o0 41 (.fieldA 1 (.t 40)),o2 (.store 1 (.t 41) (.t 39))]))))) (.region [0, 2] [o0 13 (.mv (.t 2)),o0 14 (.bin .add (.t 13) (.c (.int .i64 1))),o0 2 (.mv (.t 14))])))
@[simp] def sameC11z7c (n0 : Nat) : XCode :=
 (.seq (.seq (.region [0, 2, 3, 4, 5, 25] [o0 24 (.mv (.t 5)),o0 25 (.bin .lss (.t 24) (.c (.int .i64 40)))]) (.cond (.t 25) .skip (.exit 2))) (.seq (.block 3 (.region [0, 2, 3, 4, 5] [o0 28 (.mv (.t 4)),o0 29 (.fieldA 2 (.t 3)),o0 30 (.load none (.t 29)),o0 31 (.call .view n0 [.t 30]),o0 32 (.buildSlice 2 [(.int .u8 0),(.int .i64 0)] 1 [(0, 2,(.t 31))]),o0 33 (.append 2 16 (.t 28) (.t 32)),o0 4 (.mv (.t 33))])) (.region [0, 2, 3, 4, 5] [o0 26 (.mv (.t 5)),o0 27 (.bin .add (.t 26) (.c (.int .i64 1))),o0 5 (.mv (.t 27))])))
@[simp] def sameC11z8c (n0 : Nat) : XCode :=
 (.seq (.seq (.region [0, 2, 3, 4, 5, 25] [o0 24 (.mv (.t 5)),o0 25 (.bin .lss (.t 24) (.c (.int .i64 40)))]) (.cond (.t 25) .skip (.exit 2))) (.seq (.block 3 (.region [0, 2, 3, 4, 5] [o0 28 (.mv (.t 4)),o0 29 (.fieldA 2 (.t 3)),o0 30 (.load none (.t 29)),o0 31 (.call .view n0 [.t 30]),o0 32 (.buildSlice 2 [(.int .i64 0),(.slice none 0 0)] 1 [(0, 2,(.t 31))]),o0 33 (.append 2 32 (.t 28) (.t 32)),o0 4 (.mv (.t 33))])) (.region [0, 2, 3, 4, 5] [o0 26 (.mv (.t 5)),o0 27 (.bin .add (.t 26) (.c (.int .i64 1))),o0 5 (.mv (.t 27))])))
@[simp] def sameC11z9c (n0 : Nat) : XCode :=
 (.seq (.seq (.region [0, 3, 4, 5, 34] [o0 30 (.mv (.t 5)),o0 31 (.fieldA 1 (.t 4)),o0 32 (.load none (.t 31)),o0 33 (.len (.t 32)),o0 34 (.bin .lss (.t 30) (.t 33))]) (.cond (.t 34) .skip (.exit 2))) (.seq (.block 3 (.seq (.region [0, 3, 4, 5, 63] [o0 37 (.fieldA 1 (.t 4)),o0 38 (.load none (.t 37)),o0 39 (.mv (.t 5)),o0 40 (.idxA 1 (.t 38) (.t 39)),o0 41 (.load none (.t 40)),o0 42 (.fieldA 2 (.t 4)),o0 43 (.load none (.t 42)),o0 44 (.call .view n0 [(.t 41),(.t 43)]),o0 45 (.un .not (.t 44)),o0 46 (.mv (.t 45)),o1 47 46 false (.mv (.t 5)),o1 48 46 false (.fieldA 0 (.t 4)),o1 49 46 false (.load none (.t 48)),o1 50 46 false (.len (.t 49)),o1 51 46 false (.bin .lss (.t 47) (.t 50)),o1 52 46 false (.mv (.t 51)),o1 53 52 true (.fieldA 0 (.t 4)),o1 54 52 true (.load none (.t 53)),o1 55 52 true (.mv (.t 5)),o1 56 52 true (.idxA 1 (.t 54) (.t 55)),o1 57 52 true (.load none (.t 56)),o1 58 52 true (.fieldA 2 (.t 4)),o1 59 52 true (.load none (.t 58)),o1 60 52 true (.call .view n0 [(.t 57),(.t 59)]),o1 61 52 true (.un .not (.t 60)),o1 62 46 false (.pick (.t 52) (.t 61) (.c (.bool false))),o0 63 (.pick (.t 46) (.c (.bool true)) (.t 62))]) (.cond (.t 63) (.seq (.region [2] [o0 2 (.mv (.c (.bool false)))]) .ret) .skip))) (.region [0, 3, 4, 5] [o0 35 (.mv (.t 5)),o0 36 (.bin .add (.t 35) (.c (.int .i64 1))),o0 5 (.mv (.t 36))])))
@[simp] def sameC11z10c (n0 : Nat) (c1 : XCode) : XCode :=
 (.seq (.seq (.region [0, 3, 12] [o0 6 (.mv (.t 3)),o0 7 (.mv (.t 0)),o0 8 (.nilCheck (.t 7)),o0 9 (.fieldA n0 (.t 8)),o0 10 (.load none (.t 9)),o0 11 (.len (.t 10)),o0 12 (.bin .lss (.t 6) (.t 11))]) (.cond (.t 12) .skip (.exit 0))) (.seq (.block 1 (.seq (.region [0, 3, 4] [o0 15 (.mv (.t 0)),o0 16 (.nilCheck (.t 15)),o0 17 (.fieldA n0 (.t 16)),o0 18 (.load none (.t 17)),o0 19 (.mv (.t 3)),o0 20 (.idxA 3 (.t 18) (.t 19)),o0 21 (.load (some 3) (.t 20)),o0 4 (.alloc [(.slice none 0 0),(.slice none 0 0),(.int .i64 0)]),o2 (.store 3 (.t 4) (.t 21))]) (.seq (.seq (.region [0, 3, 4, 29] [o0 22 (.fieldA 1 (.t 4)),o0 23 (.load none (.t 22)),o0 24 (.len (.t 23)),o0 25 (.fieldA 0 (.t 4)),o0 26 (.load none (.t 25)),o0 27 (.len (.t 26)),o0 28 (.bin .add (.t 27) (.c (.int .i64 40))),o0 29 (.bin .neq (.t 24) (.t 28))]) (.cond (.t 29) (.seq (.region [2] [o0 2 (.mv (.c (.bool false)))]) .ret) .skip)) (.seq (.region [0, 3, 4, 5] [o0 5 (.mv (.c (.int .i64 0)))]) (.block 2 (.loop [0, 3, 4, 5] c1)))))) (.region [0, 3] [o0 13 (.mv (.t 3)),o0 14 (.bin .add (.t 13) (.c (.int .i64 1))),o0 3 (.mv (.t 14))])))
@[simp] def sameC11z11f (c0 : XCode) : XFun :=
 ⟨[.tmp 2],(.seq (.region [0] [o0 2 (.mv (.c (.bool false)))]) (.seq (.seq (.region [0, 3] [o0 3 (.mv (.c (.int .i64 0)))]) (.block 0 (.loop [0, 3] c0))) (.seq (.region [2] [o0 2 (.mv (.c (.bool true)))]) .ret)))⟩
@[simp] def sameC11z12c (n0 : Nat) (n1 : Nat) : XCode :=
 (.seq (.seq (.region [0, 3, 4, 5, 34] [o0 30 (.mv (.t 5)),o0 31 (.fieldA 1 (.t 4)),o0 32 (.load none (.t 31)),o0 33 (.len (.t 32)),o0 34 (.bin .lss (.t 30) (.t 33))]) (.cond (.t 34) .skip (.exit 2))) (.seq (.block 3 (.seq (.region [0, 3, 4, 5, 63] [o0 37 (.fieldA 1 (.t 4)),o0 38 (.load none (.t 37)),o0 39 (.mv (.t 5)),o0 40 (.idxA n0 (.t 38) (.t 39)),o0 41 (.load (some n0) (.t 40)),o0 42 (.fieldA 2 (.t 4)),o0 43 (.load none (.t 42)),o0 44 (.call .view n1 [(.t 41),(.t 43)]),o0 45 (.un .not (.t 44)),o0 46 (.mv (.t 45)),o1 47 46 false (.mv (.t 5)),o1 48 46 false (.fieldA 0 (.t 4)),o1 49 46 false (.load none (.t 48)),o1 50 46 false (.len (.t 49)),o1 51 46 false (.bin .lss (.t 47) (.t 50)),o1 52 46 false (.mv (.t 51)),o1 53 52 true (.fieldA 0 (.t 4)),o1 54 52 true (.load none (.t 53)),o1 55 52 true (.mv (.t 5)),o1 56 52 true (.idxA n0 (.t 54) (.t 55)),o1 57 52 true (.load (some n0) (.t 56)),o1 58 52 true (.fieldA 2 (.t 4)),o1 59 52 true (.load none (.t 58)),o1 60 52 true (.call .view n1 [(.t 57),(.t 59)]),o1 61 52 true (.un .not (.t 60)),o1 62 46 false (.pick (.t 52) (.t 61) (.c (.bool false))),o0 63 (.pick (.t 46) (.c (.bool true)) (.t 62))]) (.cond (.t 63) (.seq (.region [2] [o0 2 (.mv (.c (.bool false)))]) .ret) .skip))) (.region [0, 3, 4, 5] [o0 35 (.mv (.t 5)),o0 36 (.bin .add (.t 35) (.c (.int .i64 1))),o0 5 (.mv (.t 36))])))
@[simp] def sameC11z13f (n0 : Nat) (n1 : Nat) : XFun :=
 ⟨[.tmp 4],(.seq (.region [1, 2] [o0 2 (.box n0 (.t 0)),o0 4 (.mv (.c (.bool false)))]) (.seq (.region [4] [o0 5 (.fieldA n1 (.t 2)),o0 6 (.load none (.t 5)),o0 7 (.mv (.t 1)),o0 8 (.bin .sub (.c (.int .i64 (-1000))) (.t 7)),o0 9 (.bin .eql (.t 6) (.t 8)),o0 4 (.mv (.t 9))]) .ret))⟩
@[simp] def sameC11z14f (n0 : Nat) (n1 : Nat) : XFun :=
 ⟨[.tmp 4],(.seq (.region [1, 2] [o0 2 (.box n0 (.t 0)),o0 4 (.mv (.c (.bool false)))]) (.seq (.region [4] [o0 5 (.fieldA n1 (.t 2)),o0 6 (.load none (.t 5)),o0 7 (.mv (.t 1)),o0 8 (.call .view 422 [.t 7]),o0 9 (.bin .eql (.t 6) (.t 8)),o0 4 (.mv (.t 9))]) .ret))⟩
end Go.EX


set_option linter.unusedVariables false
set_option linter.unusedSimpArgs false
namespace Go.EX
def ptrs (s : Nat) (out : List Nat) : List AV := out.map fun k => .optr s (k * 5)
def seenL (s : Nat) (out : List Nat) : List (AV × AV) := out.map fun k => (.optr s (k * 5), avb true)
@[simp] theorem renL_ptrs (f : Nat → Option Nat) (s : Nat) (out : List Nat) (h : (f s).isSome = true) : AV.ren.renL f (ptrs s out) = ptrs ((f s).getD 0) out := by
 obtain ⟨j, hj⟩ := Option.isSome_iff_exists.1 h
 rw [zph]
 simp [ptrs, AV.ren, hj]
@[simp] theorem seen_ren (f : Nat → Option Nat) (s : Nat) (out : List Nat) (h : (f s).isSome = true) : List.map (fun p => (AV.ren f p.1, AV.ren f p.2)) (seenL s out) = seenL ((f s).getD 0) out := by
 obtain ⟨j, hj⟩ := Option.isSome_iff_exists.1 h
 simp [seenL, AV.ren, hj]
@[simp] theorem refs_ptrs (s : Nat) (out : List Nat) : AV.refs.refsL (ptrs s out) = List.replicate out.length s := by
 unfold ptrs
 induction out with
 | nil => rfl
 | cons x r ih => simp only [List.map_cons, AV.refs.refsL, ih, AV.refs, List.length_cons, List.replicate_succ]; rfl
@[simp] theorem refs_seen1 (s : Nat) (out : List Nat) : AV.refs.refsL (List.map (fun x => x.1) (seenL s out)) = List.replicate out.length s := by
 unfold seenL
 induction out with
 | nil => rfl
 | cons x r ih => simp only [List.map_cons, AV.refs.refsL, ih, AV.refs, List.length_cons, List.replicate_succ]; rfl
@[simp] theorem refs_seen2 (s : Nat) (out : List Nat) : AV.refs.refsL (List.map (fun x => x.2) (seenL s out)) = [] := by
 unfold seenL
 induction out with
 | nil => rfl
 | cons x r ih => simp only [List.map_cons, AV.refs.refsL, ih, AV.refs]; rfl
theorem zoy (m : Mem) : ∀ (n : Nat) (todo acc : List Nat), (∀ x ∈ todo, x ∈ acc) → reach m n todo acc = acc
 | 0, _, _, _ => rfl
 | n + 1, [], _, _ => rfl
 | n + 1, x :: todo, acc, h => by
  rw [reach, if_pos (h x (List.mem_cons_self ..))]
  exact zoy m n todo acc fun y hy => h y (List.mem_cons_of_mem _ hy)
@[simp] theorem reach_rep (m : Mem) (n a s : Nat) (acc : List Nat) (h : s ∈ acc) : reach m n (List.replicate a s) acc = acc :=
 zoy m n _ acc fun x hx => by rw [List.eq_of_mem_replicate hx]; exact h
@[simp] theorem reach_rep2 (m : Mem) (n a b s t : Nat) (acc : List Nat) (h : s ∈ acc) (h' : t ∈ acc) : reach m n (List.replicate a s ++ List.replicate b t) acc = acc :=
 zoy m n _ acc fun x hx => by
  rcases List.mem_append.1 hx with hx | hx
  ·rw [List.eq_of_mem_replicate hx]; exact h
  ·rw [List.eq_of_mem_replicate hx]; exact h'
@[simp] theorem reach_rep3 (m : Mem) (n a b c s t u : Nat) (acc : List Nat) (h : s ∈ acc) (h' : t ∈ acc) (h2 : u ∈ acc) : reach m n (List.replicate a s ++ (List.replicate b t ++ List.replicate c u)) acc = acc :=
 zoy m n _ acc fun x hx => by
  rcases List.mem_append.1 hx with hx | hx
  ·rw [List.eq_of_mem_replicate hx]; exact h
  ·rcases List.mem_append.1 hx with hx | hx
   ·rw [List.eq_of_mem_replicate hx]; exact h'
   ·rw [List.eq_of_mem_replicate hx]; exact h2
section
variable {code : Nat → Option XFun} {ext : Calls'}
end
end Go.EX


namespace Go.EX
def wordsObj (o : Obj) : Int :=
 if o.k = 3 then IntKind.wrap .i64 (2 + IntKind.wrap .i64 ((IntKind.wrap .i64 ((o.s.size : Int) + 7)).tdiv 8))
 else if o.k = 6 then IntKind.wrap .i64 (2 + IntKind.wrap .i64 (2 * (o.l.xs.length : Int)))
 else if (o.k = 4 ∨ o.k = 5) ∧ 0 < o.room then IntKind.wrap .i64 (4 + IntKind.wrap .i64 (2 * o.room))
 else 3
section
variable {code : Nat → Option XFun} {ext : Calls'}
theorem zsh (h : code 578 = some x578) (o : Obj) :
  ∃ m, callW code ext 578 [.agg [.imm (.val (.int .u8 o.k)), .imm (.val (.string o.s)), .imm o.l.iv, int64 o.room, int64 o.fn]] [] = some (int64 (wordsObj o), m) := by
 refine mem_of ?_
 rw [zbs code ext h]
 have hlen := zo6 o.l.ok
 unfold wordsObj
 by_cases k3 : o.k = 3
 ·simp -implicitDefEqProofs [x578, k3]
 by_cases k6 : o.k = 6
 ·simp -implicitDefEqProofs [x578, k6, hlen]
 by_cases k4 : o.k = 4
 ·by_cases hr : 0 < o.room
  ·simp -implicitDefEqProofs [x578, k4, hr]
  ·simp -implicitDefEqProofs [x578, k4, hr]
 by_cases k5 : o.k = 5
 ·by_cases hr : 0 < o.room
  ·simp -implicitDefEqProofs [x578, k5, hr]
  ·simp -implicitDefEqProofs [x578, k5, hr]
 ·simp -implicitDefEqProofs [x578, k3, k4, k5, k6]
theorem zcv (h : code 742 = some x742) : callW code ext 742 [nilS] [] = some (nilS, []) := by
 rw [zbs code ext h]
 simp -implicitDefEqProofs [x742]
theorem zcu (h : code 742 = some x742) (row : List IV) (off : Nat) (cap : Option Nat) : callW code ext 742 [.imm (.slice row off 0 cap)] [] = some (.osl 0 0 2 0 (some 0), [.flat [] false]) := by
 rw [zbs code ext h]
 have hc : cut row off 0 = some [] := by simp [cut]
 simp -implicitDefEqProofs [x742, exAppendX, exAppend, elems, hc]
theorem zcw (h : code 742 = some x742) {row : List IV} {off n : Nat} {cap : Option Nat} {R : List IV} (hc : cut row off (n * 2) = some R) (h0 : 0 < n) (hn : n ≤ 1000000000) : callW code ext 742 [.imm (.slice row off n cap)] [] = some (.osl 0 0 2 n none, [.flat R false]) := by
 rw [zbs code ext h]
 have h1 : ¬ n = 0 := by omega
 have h2 : n * 16 ≤ 140737488355328 := by omega
 simp -implicitDefEqProofs [x742, exAppendX, exAppend, elems, hc, h1, h2]
theorem zco (h : code 740 = some x740) : callW code ext 740 [nilS] [] = some (nilS, []) := by
 rw [zbs code ext h]
 simp -implicitDefEqProofs [x740, exSlice3]
def isNilIV : IV → Bool
 | .val _ => true
 | _ => false
def cloneL (l : Sl tVal) : Sl tVal :=
 if isNilIV l.iv = true then l else ⟨.slice (tVal.row l.xs) 0 l.xs.length (some l.xs.length), l.xs, ⟨l.ok.1, l.ok.2.1, .inr ⟨_, 0, _, rfl, fun c h => by cases h; exact Nat.le_refl _, zdh tVal l.xs⟩⟩⟩
def cloneObj (o : Obj) : Obj := { o with l := cloneL o.l }
theorem zqp : ∀ (xs : List Obj) (i : Nat) (o : Obj) (l : Sl tVal), xs[i]? = some o → (tObj.row xs).set (i * 5 + 2) l.iv = tObj.row (xs.set i { o with l := l })
 | [], i, o, l, h => by cases h
 | x :: r, 0, o, l, h => by
  cases h
  simp [Ty.row, tObj]
 | x :: r, i + 1, o, l, h => by
  have ih := zqp r i o l (by simpa using h)
  have e : (i + 1) * 5 + 2 = (i * 5 + 2) + 1 + 1 + 1 + 1 + 1 := by omega
  have er : ∀ (y : Obj) (q : List Obj), tObj.row (y :: q) = .val (.int .u8 y.k) :: .val (.string y.s) :: y.l.iv :: .val (.int .i64 y.room) :: .val (.int .i64 y.fn) :: tObj.row q := fun y q => rfl
  rw [List.set_cons_succ, er, er, e]
  simp only [List.set_cons_succ]
  rw [ih]
end
end Go.EX


namespace Go.EX
section
variable {code : Nat → Option XFun} {ext : Calls'}
theorem zcx (h : code 743 = some x743) {T : List Obj} (hn : T.length ≤ 100000000) {C : List IV} (mv : Bool) (cap : Option Nat) (hc : cut C 0 (T.length * 5) = some (tObj.row T)) :
  callW code ext 743 [.osl 0 0 5 T.length cap] [.flat C mv] = some (.osl 1 0 5 T.length (if T.length = 0 then some 0 else none), [.flat C mv, .flat (tObj.row T) false]) := by
 rw [zbs code ext h]
 by_cases h0 : T.length = 0
 ·have hx : T = [] := List.eq_nil_of_length_eq_zero h0
  subst hx
  have hr : tObj.row ([] : List Obj) = [] := rfl
  rw [hr]
  simp -implicitDefEqProofs [x743, exAppendX, exAppend, elems]
 ·have h2 : T.length * 64 ≤ 140737488355328 := by omega
  rw [if_neg h0]
  simp -implicitDefEqProofs [x743, exAppendX, exAppend, elems, hc, h0, h2]
theorem zcp (h : code 741 = some x741) (n : Nat) (cp : Option Nat) (hc : cp = none ∨ cp = some n) (R : List IV) :
  callW code ext 741 [.osl 0 0 5 n cp] [.flat R false] = some (.osl 0 0 5 n (some n), [.flat R false]) := by
 rw [zbs code ext h]
 rcases hc with rfl | rfl <;> simp -implicitDefEqProofs [x741, exSlice3]
def sizeRow (T : List Obj) : List IV := T.map fun o => .val (.int .i64 (wordsObj o))
def sizeV (n : Nat) : AV := if n = 0 then nilS else .osl 0 0 1 n none
def sizeM (T : List Obj) : Mem := if T.length = 0 then [] else [.flat (sizeRow T) false]
theorem zsj (h : code 578 = some x578) {T : List Obj} {C : List IV} (cap : Option Nat) (hC : cut C 0 (T.length * 5) = some (tObj.row T)) (hn : T.length ≤ 100000000) (s0 : St)
  (hs0 : s0.tidy [2, 5, 6, 7] = ⟨0, [(2, nilS), (5, .imm (.slice C 0 T.length cap)), (6, int64 T.length), (7, int64 0)], []⟩) :
  ∃ e s', den code ext (.loop [2, 5, 6, 7] x642L1) s0 = some (e, s') ∧ e ≠ .normal ∧ (e = .exit 0 ∧
   s' = ⟨0, [(2, sizeV T.length), (5, .imm (.slice C 0 T.length cap)), (6, int64 T.length), (7, int64 T.length), (8, avb false)], sizeM T⟩) := by
 refine zjt (fun n s => ∃ i, i + n = T.length ∧ s.tidy [2, 5, 6, 7] = ⟨0, [(2, sizeV i), (5, .imm (.slice C 0 T.length cap)), (6, int64 T.length), (7, int64 (i : Nat))], sizeM (T.take i)⟩) _ ?_ T.length _ ⟨0, by simp, by simpa [sizeV, sizeM] using hs0⟩
 rintro n s ⟨i, hi, hst⟩
 rw [hst]
 by_cases hlt : i < T.length
 ·have hx := List.getElem?_eq_getElem hlt
  have hel : cut C (i * 5) 5 = some (tObj.enc T[i]) := by
   have := zdc hC (a := i * 5) (b := 5) (by omega)
   rw [Nat.zero_add] at this
   rw [this]
   exact zf4 (t := tObj) hx
  have htk : T.take (i + 1) = T.take i ++ [T[i]] := by rw [List.take_add_one, hx]; rfl
  have hsr : sizeRow (T.take (i + 1)) = sizeRow (T.take i) ++ [.val (.int .i64 (wordsObj T[i]))] := by rw [htk]; unfold sizeRow; rw [List.map_append]; rfl
  obtain ⟨m, hs⟩ := zsh (ext := ext) h T[i]
  simp only [tObj] at hel
  generalize T[i] = o at *
  generalize wordsObj o = w at *
  have e1 : IntKind.wrap .i64 ((i : Int) + 1) = (i : Int) + 1 := wrapI64 (by omega) (by omega)
  have hlt' : (i : Int) < T.length := by omega
  have hti : (T.take i).length = i := by rw [List.length_take]; omega
  have hti1 : (T.take (i + 1)).length = i + 1 := by rw [List.length_take]; omega
  by_cases h0 : i = 0
  ·subst h0
   simp only [Nat.zero_mul] at hel
   have e10 : IntKind.wrap .i64 1 = 1 := rfl
   refine ⟨.normal, ⟨0, [(2, .osl 2 0 1 1 none), (5, .imm (.slice C 0 T.length cap)), (6, int64 T.length), (7, int64 1)], [.rich [.imm (.val (.int .u8 o.k)), strV o.s, .imm o.l.iv, int64 o.room, int64 o.fn], .flat [.val (.int .i64 w)] false, .flat [.val (.int .i64 w)] false]⟩, ?_, .inl ⟨rfl, n - 1, by omega, 1, by omega, ?_⟩⟩
   ·simp only [sizeV, sizeM, hti, if_true]
    simp -implicitDefEqProofs [x642L1, hlt, hlt', hel, hs, exAppendX, exAppend, elems, e10]
   ·have hsr1 : sizeRow (T.take 1) = [.val (.int .i64 w)] := by simpa [sizeRow] using hsr
    simp -implicitDefEqProofs [sizeV, sizeM, hti1, hsr1]
  ·refine ⟨.normal, ⟨0, [(2, .osl 0 0 1 (i + 1) none), (5, .imm (.slice C 0 T.length cap)), (6, int64 T.length), (7, int64 ((i : Int) + 1))], [.flat (sizeRow (T.take (i + 1))) false, .rich [.imm (.val (.int .u8 o.k)), strV o.s, .imm o.l.iv, int64 o.room, int64 o.fn], .flat [.val (.int .i64 w)] false]⟩, ?_, .inl ⟨rfl, n - 1, by omega, i + 1, by omega, ?_⟩⟩
   ·have hcut : cut (sizeRow (T.take i)) 0 i = some (sizeRow (T.take i)) := zdb _ (by unfold sizeRow; rw [List.length_map, hti])
    have hle : (i + 1) * 8 ≤ 140737488355328 := by omega
    simp only [sizeV, sizeM, hti, h0, if_false]
    simp -implicitDefEqProofs [x642L1, hlt, hlt', hel, hs, exAppendX, exAppend, elems, hcut, hle, e1, hsr]
   ·simp -implicitDefEqProofs [sizeV, sizeM, hti1]
 ·have : i = T.length := by omega
  subst this
  rw [List.take_length]
  refine ⟨.exit 0, ⟨0, [(2, sizeV T.length), (5, .imm (.slice C 0 T.length cap)), (6, int64 T.length), (7, int64 T.length), (8, avb false)], sizeM T⟩, ?_, .inr ⟨by simp, rfl, rfl⟩⟩
  unfold sizeV sizeM
  by_cases h0 : T.length = 0
  ·simp -implicitDefEqProofs [x642L1, h0]
  ·simp -implicitDefEqProofs [x642L1, h0]
theorem zsk (h : code 642 = some x642) (h1 : code 578 = some x578) {T : List Obj} {C : List IV} (cap : Option Nat) (hC : cut C 0 (T.length * 5) = some (tObj.row T)) (hn : T.length ≤ 100000000) :
  callW code ext 642 [.imm (.slice C 0 T.length cap)] [] = some (sizeV T.length, sizeM T) := by
 obtain ⟨e, s', l1, _, rfl, rfl⟩ := zsj (ext := ext) h1 cap hC hn ⟨0, [(2, nilS), (5, .imm (.slice C 0 T.length cap)), (6, int64 T.length), (7, int64 0)], []⟩ (by simp -implicitDefEqProofs)
 rw [zbs code ext h]
 unfold x642
 generalize x642L1 = L at *
 unfold sizeV sizeM at *
 by_cases h0 : T.length = 0
 ·simp only [h0, if_true, Int.natCast_zero] at *
  simp -implicitDefEqProofs [l1]
 ·simp only [h0, if_false] at *
  simp -implicitDefEqProofs [l1]
end
end Go.EX


namespace Go.EX
def richRow (R : List IV) (p : Nat) (v : AV) : List AV := (R.map AV.imm).set p v
theorem stepN {p : Option (XExit × St)} {k : List Nat} {X : St} (h : p.map (fun q => (q.1, q.2.tidy k)) = some (.normal, X)) : ∃ s', p = some (.normal, s') ∧ s'.tidy k = X := by
 cases p with
 | none => cases h
 | some q =>
  obtain ⟨e, s'⟩ := q
  simp only [Option.map_some, Option.some.injEq, Prod.mk.injEq] at h
  obtain ⟨rfl, h⟩ := h
  exact ⟨s', rfl, h⟩
theorem zp4 (R : List IV) (p : Nat) (v : AV) : (richRow R p v).length = R.length := by simp [richRow]
theorem zp2 {R : List IV} {p q : Nat} {v : AV} {x : IV} (h : R[q]? = some x) (hq : q ≠ p) : (richRow R p v)[q]? = some (.imm x) := by
 unfold richRow
 rw [List.getElem?_set_ne (Ne.symm hq), List.getElem?_map, h]; rfl
theorem zp1 {R : List IV} {p : Nat} {v : AV} (h : p < R.length) : (richRow R p v)[p]? = some v := by
 unfold richRow
 rw [List.getElem?_set_self (by simpa using h)]
theorem zp8 {R : List IV} {p q : Nat} {v : AV} {x : IV} (hq : q ≠ p) : (richRow R p v).set q (.imm x) = richRow (R.set q x) p v := by
 unfold richRow
 rw [List.set_comm _ _ (Ne.symm hq), List.map_set]
theorem zp9 {R : List IV} {p q : Nat} {v : AV} {x : IV} (hq : q ≠ p) : setAll (richRow R p v) q [.imm x] = richRow (R.set q x) p v := zp8 hq
theorem zp5 (R : List IV) (p : Nat) (v : AV) : setAll (R.map AV.imm) p [v] = richRow R p v := rfl
theorem zp7 (R : List IV) (p : Nat) (v w : AV) : (richRow R p v).set p w = richRow R p w := by simp [richRow]
theorem zpa : ∀ (R : List IV), AV.refs.refsL (R.map AV.imm) = []
 | [] => rfl
 | x :: r => by simp [AV.refs.refsL, AV.refs, zpa r]
theorem zpc : ∀ (R : List IV) (p : Nat) (v : AV), p < R.length → AV.refs.refsL ((R.map AV.imm).set p v) = v.refs
 | [], p, v, h => absurd h (Nat.not_lt_zero p)
 | x :: r, 0, v, h => by simp [AV.refs.refsL, zpa]
 | x :: r, p + 1, v, h => by
  have := zpc r p v (by simpa using h)
  simp [AV.refs.refsL, AV.refs, this]
theorem zpe {R : List IV} {p : Nat} {v : AV} (h : p < R.length) : AV.refs.refsL (richRow R p v) = v.refs := zpc R p v h
theorem zpu (f : Nat → Option Nat) (R : List IV) (p : Nat) (v : AV) : AV.ren.renL f (richRow R p v) = richRow R p (v.ren f) := by
 rw [zph]
 unfold richRow
 rw [List.map_set, List.map_map]
 congr 1
section
variable {code : Nat → Option XFun} {ext : Calls'}
theorem zcy (h : code 743 = some x743) {sv : IV} {S : List Obj} (hr : Reads tObj sv S) (hn : S.length ≤ 100000000) :
  (sv = .val (.slice none 0 0) ∧ S = [] ∧ callW code ext 743 [.imm sv] [] = some (nilS, [])) ∨
  (isNilIV sv = false ∧ ∃ cp : Option Nat, (cp = none ∨ cp = some S.length) ∧ callW code ext 743 [.imm sv] [] = some (.osl 0 0 5 S.length cp, [.flat (tObj.row S) false])) := by
 rcases hr.2.2 with ⟨rfl, rfl⟩ | ⟨row, off, cap, rfl, hc, hcut⟩
 ·left
  refine ⟨rfl, rfl, ?_⟩
  rw [zbs code ext h]
  simp -implicitDefEqProofs [x743]
 ·right
  refine ⟨rfl, ?_⟩
  rw [zbs code ext h]
  by_cases h0 : S.length = 0
  ·have hx : S = [] := List.eq_nil_of_length_eq_zero h0
   subst hx
   have hr0 : tObj.row ([] : List Obj) = [] := rfl
   have hc0 : cut row off 0 = some [] := by simp [cut]
   refine ⟨some 0, .inr rfl, ?_⟩
   rw [hr0]
   simp -implicitDefEqProofs [x743, exAppendX, exAppend, elems, hc0]
  ·have h2 : S.length * 64 ≤ 140737488355328 := by omega
   have hcut : cut row off (S.length * 5) = some (tObj.row S) := hcut
   refine ⟨none, .inl rfl, ?_⟩
   simp -implicitDefEqProofs [x743, exAppendX, exAppend, elems, hcut, h0, h2]
theorem zct (h : code 742 = some x742) (h2 : code 740 = some x740) (l : Sl tVal) (hb : l.xs.length ≤ 1000000000) :
  (l.iv = .val (.slice none 0 0) ∧ l.xs = [] ∧ callW code ext 742 [.imm l.iv] [] = some (nilS, []) ∧ callW code ext 740 [nilS] [] = some (nilS, []) ∧ (cloneL l).iv = .val (.slice none 0 0)) ∨
  (isNilIV l.iv = false ∧ ∃ (cap : Option Nat), callW code ext 742 [.imm l.iv] [] = some (.osl 0 0 2 l.xs.length cap, [.flat (tVal.row l.xs) false]) ∧ callW code ext 740 [.osl 0 0 2 l.xs.length cap] [.flat (tVal.row l.xs) false] = some (.osl 0 0 2 l.xs.length (some l.xs.length), [.flat (tVal.row l.xs) false]) ∧ (cloneL l).iv = .slice (tVal.row l.xs) 0 l.xs.length (some l.xs.length)) := by
 obtain ⟨iv, xs, ok⟩ := l
 dsimp only at hb ⊢
 have hclip : ∀ cap : Option Nat, (cap = none ∨ cap = some xs.length) → callW code ext 740 [.osl 0 0 2 xs.length cap] [.flat (tVal.row xs) false] = some (.osl 0 0 2 xs.length (some xs.length), [.flat (tVal.row xs) false]) := by
  intro cap hcap
  rw [zbs code ext h2]
  generalize tVal.row xs = R
  rcases hcap with rfl | rfl <;> simp -implicitDefEqProofs [x740, exSlice3]
 rcases ok.2.2 with ⟨rfl, rfl⟩ | ⟨row, off, cap, rfl, hc, hcut⟩
 ·exact .inl ⟨rfl, rfl, zcv h, zco h2, rfl⟩
 ·right
  refine ⟨rfl, ?_⟩
  have hr : cloneL ⟨.slice row off xs.length cap, xs, ok⟩ = ⟨.slice (tVal.row xs) 0 xs.length (some xs.length), xs, ⟨ok.1, ok.2.1, .inr ⟨_, 0, _, rfl, fun c h => by cases h; exact Nat.le_refl _, zdh tVal xs⟩⟩⟩ := by
   unfold cloneL
   rw [if_neg (by simp [isNilIV])]
  rw [hr]
  by_cases h0 : xs.length = 0
  ·have hx : xs = [] := List.eq_nil_of_length_eq_zero h0
   subst hx
   exact ⟨_, zcu h row off cap, hclip _ (.inr rfl), rfl⟩
  ·exact ⟨_, zcw h (R := tVal.row xs) hcut (by omega) hb, hclip _ (.inl rfl), rfl⟩
end
end Go.EX


namespace Go.EX
def tgtM (T : List Obj) (idx : Nat) (b : Bool) (R : List IV) : Mem := match T[idx]? with
 | some o => if b = true ∧ isNilIV o.l.iv = false then [.rich (richRow R (idx * 5 + 2) (.osl 1 0 2 o.l.xs.length (some o.l.xs.length))), .flat (tVal.row o.l.xs) false] else [.flat R false]
 | none => [.flat R false]
section
variable {code : Nat → Option XFun} {ext : Calls'}
set_option maxHeartbeats 4000000 in
theorem zt5 (h : code 742 = some x742) (h2 : code 740 = some x740) {T : List Obj} (hT : ∀ o ∈ T, o.l.xs.length ≤ 1000000) (hn : T.length ≤ 100000000) (idx : Nat) (cp : Option Nat) {i : Nat} (hlt : i < T.length) :
  ∃ s', den code ext (x643PL1 (idx * 5 + 2)) ⟨0, [(3, .osl 0 0 5 T.length cp), (8, int64 T.length), (9, int64 i)], tgtM T idx (decide (idx < i)) (tObj.row ((T.take i).map cloneObj ++ T.drop i))⟩ = some (.normal, s') ∧
   s'.tidy [3, 8, 9] = ⟨0, [(3, .osl 0 0 5 T.length cp), (8, int64 T.length), (9, int64 ((i : Int) + 1))], tgtM T idx (decide (idx < i + 1)) (tObj.row ((T.take (i + 1)).map cloneObj ++ T.drop (i + 1)))⟩ := by
 have hx := List.getElem?_eq_getElem hlt
 have hmem := List.getElem_mem hlt
 have hb := hT _ hmem
 have hti : ((T.take i).map cloneObj).length = i := by rw [List.length_map, List.length_take]; omega
 have hgo : ((T.take i).map cloneObj ++ T.drop i)[i]? = some T[i] := by
  rw [List.getElem?_append_right (by omega), hti, Nat.sub_self, List.getElem?_drop, Nat.add_zero]; exact hx
 have hset := zqp _ i _ (cloneL T[i].l) hgo
 have hcell := zdd (zf4 (t := tObj) hgo) 2 (by decide)
 have hnew : ((T.take i).map cloneObj ++ T.drop i).set i { T[i] with l := cloneL T[i].l } = (T.take (i + 1)).map cloneObj ++ T.drop (i + 1) := by
  rw [List.drop_eq_getElem_cons hlt, List.set_append_right _ _ (by omega), hti, Nat.sub_self, List.set_cons_zero, List.take_add_one, hx, Option.toList_some, List.map_append, List.append_assoc]
  rfl
 rw [hnew] at hset
 have hlen : ((T.take i).map cloneObj ++ T.drop i).length = T.length := by rw [List.length_append, hti, List.length_drop]; omega
 have hrl := zqn tObj ((T.take i).map cloneObj ++ T.drop i)
 rw [hlen] at hrl
 have hcc := zct (ext := ext) h h2 T[i].l (by omega)
 have e1 : IntKind.wrap .i64 ((i : Int) + 1) = (i : Int) + 1 := wrapI64 (by omega) (by omega)
 have hlt' : (i : Int) < T.length := by omega
 have hcl : (tObj.row ((T.take i).map cloneObj ++ T.drop i))[i * 5 + 2]? = some T[i].l.iv := hcell
 generalize tObj.row ((T.take i).map cloneObj ++ T.drop i) = R at *
 generalize tObj.row ((T.take (i + 1)).map cloneObj ++ T.drop (i + 1)) = R' at *
 have hR : i * 5 + 2 + 1 ≤ R.length := by rw [hrl]; simp only [tObj]; omega
 have hR1 : i * 5 + 2 < R.length := by omega
 have hsa : setAll R (i * 5 + 2) [(cloneL T[i].l).iv] = R' := hset
 have p1 := zpu
 refine stepN ?_
 by_cases hidx : i = idx
 ·
  subst hidx
  have d1 : decide (i < i) = false := by simp
  have d2 : decide (i < i + 1) = true := by simp
  rw [d1, d2]
  unfold tgtM
  rw [hx]
  simp only [Bool.false_eq_true, false_and, if_false, true_and]
  generalize T[i] = o at *
  rcases hcc with ⟨c0, cx, c1, c2, c3⟩ | ⟨c0, cap, c1, c2, c3⟩
  ·have hn0 : ¬ isNilIV o.l.iv = false := by rw [c0]; simp [isNilIV]
   rw [if_neg hn0]
   rw [c3] at hsa
   rw [c0] at c1 hcl
   simp -implicitDefEqProofs [x643PL1, exStoreF, exLook, hlt, hlt', hcl, c1, c2, e1, hR, hsa]
  ·rw [if_pos c0]
   have hmk := zp5 R (i * 5 + 2)
   have hrr : richRow R (i * 5 + 2) (.osl 1 0 2 o.l.xs.length (some o.l.xs.length)) = richRow R' (i * 5 + 2) (.osl 1 0 2 o.l.xs.length (some o.l.xs.length)) := by
    rw [← hset]
    unfold richRow
    rw [List.map_set, List.set_set]
   have hrf := zpe (R := R) (p := i * 5 + 2) (v := .osl 1 0 2 o.l.xs.length (some o.l.xs.length)) hR1
   rw [← hrr]
   generalize tVal.row o.l.xs = W at *
   generalize o.l.xs.length = n at *
   simp -implicitDefEqProofs [x643PL1, exStoreF, exLook, hlt, hlt', hcl, c1, c2, e1, hR, hmk, hrf, p1]
 ·have hoff : ¬ i * 5 + 2 = idx * 5 + 2 := by omega
  have hoff2 : ¬ i * 5 = idx * 5 := by omega
  by_cases hi : idx < i
  ·
   have d1 : decide (idx < i) = true := by simpa using hi
   have d2 : decide (idx < i + 1) = true := by simp; omega
   rw [d1, d2]
   unfold tgtM
   have hxi : T[idx]? = some T[idx] := List.getElem?_eq_getElem (by omega)
   rw [hxi]
   have hpR : idx * 5 + 2 < R.length := by omega
   have hpR' : idx * 5 + 2 < R'.length := by rw [← hset, List.length_set]; omega
   generalize T[idx] = q at *
   by_cases hq : isNilIV q.l.iv = false
   ·simp only [hq, and_self, if_true]
    have hrf := zpe (R := R') (p := idx * 5 + 2) (v := .osl 1 0 2 q.l.xs.length (some q.l.xs.length)) hpR'
    have hgt := zp2 (v := .osl 1 0 2 q.l.xs.length (some q.l.xs.length)) hcl hoff
    have hrs := zp9 (R := R) (p := idx * 5 + 2) (q := i * 5 + 2) (v := .osl 1 0 2 q.l.xs.length (some q.l.xs.length)) (x := (cloneL T[i].l).iv) hoff
    have hset' : R.set (i * 5 + 2) (cloneL T[i].l).iv = R' := hset
    rw [hset'] at hrs
    have hll := zp4 R (idx * 5 + 2) (.osl 1 0 2 q.l.xs.length (some q.l.xs.length))
    generalize T[i] = o at *
    generalize tVal.row q.l.xs = W at *
    generalize q.l.xs.length = n at *
    rcases hcc with ⟨c0, cx, c1, c2, c3⟩ | ⟨c0, cap, c1, c2, c3⟩
    ·rw [c3] at hrs
     rw [c0] at c1 hcl hgt
     simp -implicitDefEqProofs [x643PL1, exStoreF, exLook, hlt, hlt', hgt, c1, c2, e1, hR, hrs, hrf, hll, hoff2, p1]
    ·rw [c3] at hrs
     generalize tVal.row o.l.xs = W2 at *
     generalize o.l.xs.length = n2 at *
     simp -implicitDefEqProofs [x643PL1, exStoreF, exLook, hlt, hlt', hgt, c1, c2, e1, hR, hrs, hrf, hll, hoff2, p1]
   ·simp only [hq, and_false, if_false]
    generalize T[i] = o at *
    rcases hcc with ⟨c0, cx, c1, c2, c3⟩ | ⟨c0, cap, c1, c2, c3⟩
    ·rw [c3] at hsa
     rw [c0] at c1 hcl
     simp -implicitDefEqProofs [x643PL1, exStoreF, exLook, hlt, hlt', hcl, c1, c2, e1, hR, hsa, hoff2]
    ·rw [c3] at hsa
     generalize tVal.row o.l.xs = W2 at *
     generalize o.l.xs.length = n2 at *
     simp -implicitDefEqProofs [x643PL1, exStoreF, exLook, hlt, hlt', hcl, c1, c2, e1, hR, hsa, hoff2]
  ·have d1 : decide (idx < i) = false := by simpa using hi
   have d2 : decide (idx < i + 1) = false := by simp; omega
   rw [d1, d2]
   have hf : ∀ Q : List IV, tgtM T idx false Q = [.flat Q false] := fun Q => by
    unfold tgtM
    cases T[idx]? with
    | none => rfl
    | some o => simp
   rw [hf, hf]
   generalize T[i] = o at *
   rcases hcc with ⟨c0, cx, c1, c2, c3⟩ | ⟨c0, cap, c1, c2, c3⟩
   ·rw [c3] at hsa
    rw [c0] at c1 hcl
    simp -implicitDefEqProofs [x643PL1, exStoreF, exLook, hlt, hlt', hcl, c1, c2, e1, hR, hsa, hoff2]
   ·rw [c3] at hsa
    generalize tVal.row o.l.xs = W2 at *
    generalize o.l.xs.length = n2 at *
    simp -implicitDefEqProofs [x643PL1, exStoreF, exLook, hlt, hlt', hcl, c1, c2, e1, hR, hsa, hoff2]
end
end Go.EX


namespace Go.EX
section
variable {code : Nat → Option XFun} {ext : Calls'}
theorem zt2 (h : code 742 = some x742) (h2 : code 740 = some x740) {T : List Obj} (hT : ∀ o ∈ T, o.l.xs.length ≤ 1000000) (hn : T.length ≤ 100000000) (idx : Nat) (cp : Option Nat) (s0 : St)
  (hs0 : s0.tidy [3, 8, 9] = ⟨0, [(3, .osl 0 0 5 T.length cp), (8, int64 T.length), (9, int64 0)], [.flat (tObj.row T) false]⟩) :
  ∃ e s', den code ext (.loop [3, 8, 9] (x643PL1 (idx * 5 + 2))) s0 = some (e, s') ∧ e ≠ .normal ∧ (e = .exit 0 ∧ s' = ⟨0, [(3, .osl 0 0 5 T.length cp), (8, int64 T.length), (9, int64 T.length), (10, avb false)], tgtM T idx (decide (idx < T.length)) (tObj.row (T.map cloneObj))⟩) := by
 have h0 : tgtM T idx (decide (idx < 0)) (tObj.row ((T.take 0).map cloneObj ++ T.drop 0)) = [.flat (tObj.row T) false] := by
  unfold tgtM
  cases T[idx]? with
  | none => rfl
  | some o => simp
 refine zjt (fun n s => ∃ i, i + n = T.length ∧ s.tidy [3, 8, 9] = ⟨0, [(3, .osl 0 0 5 T.length cp), (8, int64 T.length), (9, int64 (i : Nat))], tgtM T idx (decide (idx < i)) (tObj.row ((T.take i).map cloneObj ++ T.drop i))⟩) _ ?_ T.length _ ⟨0, by simp, by rw [h0]; exact hs0⟩
 rintro n s ⟨i, hi, hst⟩
 rw [hst]
 by_cases hlt : i < T.length
 ·obtain ⟨s', g1, g2⟩ := zt5 (ext := ext) h h2 hT hn idx cp hlt
  exact ⟨.normal, s', g1, .inl ⟨rfl, n - 1, by omega, i + 1, by omega, by rw [g2, Int.natCast_add]; rfl⟩⟩
 ·have : i = T.length := by omega
  subst this
  rw [List.take_length, List.drop_length, List.append_nil]
  refine ⟨.exit 0, _, ?_, .inr ⟨by simp, rfl, rfl⟩⟩
  generalize tgtM T idx (decide (idx < T.length)) (tObj.row (T.map cloneObj)) = M
  simp -implicitDefEqProofs [x643PL1]
theorem zcn (h : code 741 = some x741) (n : Nat) (cp : Option Nat) (hc : cp = none ∨ cp = some n) (T : List Obj) (idx : Nat) (b : Bool) (R : List IV) (hp : ∀ o, T[idx]? = some o → idx * 5 + 2 < R.length) :
  callW code ext 741 [.osl 0 0 5 n cp] (tgtM T idx b R) = some (.osl 0 0 5 n (some n), tgtM T idx b R) := by
 have p1 := zpu
 rw [zbs code ext h]
 unfold tgtM
 split
 ·rename_i o ho
  have hrf := zpe (R := R) (p := idx * 5 + 2) (v := .osl 1 0 2 o.l.xs.length (some o.l.xs.length)) (hp o ho)
  split
  ·generalize tVal.row o.l.xs = W at *
   generalize o.l.xs.length = n2 at *
   rcases hc with rfl | rfl <;> simp -implicitDefEqProofs [x741, exSlice3, hrf, p1]
  ·rcases hc with rfl | rfl <;> simp -implicitDefEqProofs [x741, exSlice3]
 ·rcases hc with rfl | rfl <;> simp -implicitDefEqProofs [x741, exSlice3]
structure TwinCode (code : Nat → Option XFun) (idx : Nat) : Prop where
 c643 : code 643 = some (x643P (idx * 5 + 2))
 c740 : code 740 = some x740
 c741 : code 741 = some x741
 c742 : code 742 = some x742
 c743 : code 743 = some x743
theorem zt3 {idx : Nat} (c : TwinCode code idx) : callW code ext 643 [nilS] [] = some (nilS, []) := by
 have g1 : callW code ext 743 [nilS] [] = some (nilS, []) := by
  rw [zbs code ext c.c743]
  simp -implicitDefEqProofs [x743]
 have g2 : callW code ext 741 [nilS] [] = some (nilS, []) := by
  rw [zbs code ext c.c741]
  simp -implicitDefEqProofs [x741, exSlice3]
 rw [zbs code ext c.c643]
 simp -implicitDefEqProofs [x643P, g1]
 rw [zdn]
 simp -implicitDefEqProofs [x643PL1, g2]
theorem zt4 {idx : Nat} (c : TwinCode code idx) {sv : IV} {S : List Obj} (hr : Reads tObj sv S) (hz : isNilIV sv = false) (hT : ∀ o ∈ S, o.l.xs.length ≤ 1000000) (hn : S.length ≤ 100000000) :
  callW code ext 643 [.imm sv] [] = some (.osl 0 0 5 S.length (some S.length), tgtM S idx (decide (idx < S.length)) (tObj.row (S.map cloneObj))) := by
 rcases zcy (ext := ext) c.c743 hr hn with ⟨rfl, _⟩ | ⟨_, cp, hcp, g1⟩
 ·simp [isNilIV] at hz
 ·obtain ⟨e, s', l1, _, rfl, rfl⟩ := zt2 (ext := ext) c.c742 c.c740 hT hn idx cp ⟨0, [(3, .osl 0 0 5 S.length cp), (8, int64 S.length), (9, int64 0)], [.flat (tObj.row S) false]⟩ (by generalize tObj.row S = R; simp -implicitDefEqProofs [])
  have hrl := zqn tObj (S.map cloneObj)
  rw [List.length_map] at hrl
  have g2 := zcn (ext := ext) c.c741 S.length cp hcp S idx (decide (idx < S.length)) (tObj.row (S.map cloneObj)) (fun o ho => by
   have := (List.getElem?_eq_some_iff.1 ho).1
   rw [hrl]; simp only [tObj]; omega)
  have p1 := zpu
  rw [zbs code ext c.c643]
  have hpl : ∀ o, S[idx]? = some o → idx * 5 + 2 < (tObj.row (S.map cloneObj)).length := fun o ho => by
   have := (List.getElem?_eq_some_iff.1 ho).1
   rw [hrl]; simp only [tObj]; omega
  generalize tObj.row (S.map cloneObj) = R at *
  generalize tObj.row S = R0 at *
  unfold x643P
  generalize x643PL1 (idx * 5 + 2) = L at *
  unfold tgtM at *
  cases hS : S[idx]? with
  | none =>
   simp only [hS] at l1 g2 ⊢
   generalize S.length = n at *
   simp -implicitDefEqProofs [g1, g2, l1]
  | some o =>
   simp only [hS] at l1 g2 ⊢
   have hrf := zpe (R := R) (p := idx * 5 + 2) (v := .osl 1 0 2 o.l.xs.length (some o.l.xs.length)) (hpl o hS)
   generalize decide (idx < S.length) = b at *
   generalize tVal.row o.l.xs = W at *
   generalize o.l.xs.length = n2 at *
   generalize S.length = n at *
   by_cases hb : b = true ∧ isNilIV o.l.iv = false
   ·rw [if_pos hb] at l1 g2 ⊢
    simp -implicitDefEqProofs [g1, g2, l1, hrf, p1]
   ·rw [if_neg hb] at l1 g2 ⊢
    simp -implicitDefEqProofs [g1, g2, l1]
end
end Go.EX


namespace Go.EX
section
variable {code : Nat → Option XFun} {ext : Calls'}
def wasV (T : List Obj) : AV := if T.length = 0 then nilS else .imm (.slice (sizeRow T) 0 T.length none)
def askSum (B : List Obj) : Int := B.foldl (fun n o => IntKind.wrap .i64 (n + wordsObj o)) 0
theorem za7 (h : code 578 = some x578) {T B : List Obj} {C : List IV} (cap : Option Nat) (hC : cut C 0 ((T ++ B).length * 5) = some (tObj.row (T ++ B))) (hn : (T ++ B).length ≤ 100000000) (s0 : St)
  (hs0 : s0.tidy [1, 4, 7, 8, 9] = ⟨0, [(1, wasV T), (4, int64 0), (7, .imm (.slice C 0 (T ++ B).length cap)), (8, int64 (T ++ B).length), (9, int64 0)], []⟩) :
  ∃ e s', den code ext (.loop [1, 4, 7, 8, 9] x639L1) s0 = some (e, s') ∧ e ≠ .normal ∧ (e = .exit 0 ∧
   s' = ⟨0, [(1, wasV T), (4, int64 (askSum B)), (7, .imm (.slice C 0 (T ++ B).length cap)), (8, int64 (T ++ B).length), (9, int64 (T ++ B).length), (10, avb false)], []⟩) := by
 refine zjt (fun n s => ∃ i, i + n = (T ++ B).length ∧ s.tidy [1, 4, 7, 8, 9] = ⟨0, [(1, wasV T), (4, int64 (askSum (B.take (i - T.length)))), (7, .imm (.slice C 0 (T ++ B).length cap)), (8, int64 (T ++ B).length), (9, int64 (i : Nat))], []⟩) _ ?_ (T ++ B).length _ ⟨0, by simp, by simpa [askSum] using hs0⟩
 rintro n s ⟨i, hi, hst⟩
 rw [hst]
 have hL : (T ++ B).length = T.length + B.length := List.length_append
 by_cases hlt : i < (T ++ B).length
 ·have hx := List.getElem?_eq_getElem hlt
  have hel : cut C (i * 5) 5 = some (tObj.enc (T ++ B)[i]) := by
   have := zdc hC (a := i * 5) (b := 5) (by omega)
   rw [Nat.zero_add] at this
   rw [this]
   exact zf4 (t := tObj) hx
  obtain ⟨m, hs⟩ := zsh (ext := ext) h (T ++ B)[i]
  simp only [tObj] at hel
  have e1 : IntKind.wrap .i64 ((i : Int) + 1) = (i : Int) + 1 := wrapI64 (by omega) (by omega)
  have hlt' : (i : Int) < (T ++ B).length := by omega
  by_cases hold : i < T.length
  ·have hT := List.getElem?_eq_getElem hold
   have hgt : (T ++ B)[i] = T[i] := by rw [List.getElem_append_left hold]
   rw [hgt] at hel hs hx
   have hw : (sizeRow T)[i]? = some (.val (.int .i64 (wordsObj T[i]))) := by unfold sizeRow; rw [List.getElem?_map, hT]; rfl
   have hwv : wasV T = .imm (.slice (sizeRow T) 0 T.length none) := by unfold wasV; rw [if_neg (by omega)]
   have hz : i - T.length = 0 := by omega
   have hz1 : i + 1 - T.length = 0 := by omega
   have h1 : ¬ (T.length : Int) ≤ i := by omega
   have h2 : (i : Int) < T.length := by omega
   have ha : askSum (B.take 0) = 0 := rfl
   generalize T[i] = o at *
   generalize wordsObj o = w at *
   rw [hwv, hz, ha]
   clear hgt
   generalize (T ++ B).length = N at *
   refine ⟨.normal, ⟨0, [(1, .imm (.slice (sizeRow T) 0 T.length none)), (4, int64 0), (7, .imm (.slice C 0 N cap)), (8, int64 N), (9, int64 ((i : Int) + 1))], [.rich [.imm (.val (.int .u8 o.k)), strV o.s, .imm o.l.iv, int64 o.room, int64 o.fn]]⟩, ?_, .inl ⟨rfl, n - 1, by omega, i + 1, by omega, ?_⟩⟩
   ·simp -implicitDefEqProofs [x639L1, hlt, hlt', hel, hs, hw, h1, h2, hold, e1]
   ·rw [hz1, ha]
    simp -implicitDefEqProofs
  ·have hB : i - T.length < B.length := by omega
   have hBx := List.getElem?_eq_getElem hB
   have hgt : (T ++ B)[i] = B[i - T.length] := by rw [List.getElem_append_right (by omega)]
   rw [hgt] at hel hs hx
   have hz1 : i + 1 - T.length = (i - T.length) + 1 := by omega
   have htk : B.take (i - T.length + 1) = B.take (i - T.length) ++ [B[i - T.length]] := by rw [List.take_add_one, hBx]; rfl
   have ha : askSum (B.take (i - T.length + 1)) = IntKind.wrap .i64 (askSum (B.take (i - T.length)) + wordsObj B[i - T.length]) := by rw [htk]; unfold askSum; rw [List.foldl_append]; rfl
   have h1 : (T.length : Int) ≤ i := by omega
   generalize B[i - T.length] = o at *
   generalize wordsObj o = w at *
   generalize askSum (B.take (i - T.length)) = a at *
   have hwv : lenOf (wasV T) = some T.length := by
    unfold wasV
    by_cases h0 : T.length = 0
    ·rw [if_pos h0, h0]; rfl
    ·rw [if_neg h0]; rfl
   have hws : ∃ x, wasV T = .imm x := by
    unfold wasV
    split
    ·exact ⟨_, rfl⟩
    ·exact ⟨_, rfl⟩
   obtain ⟨x, hws⟩ := hws
   rw [hws] at hwv ⊢
   clear hgt
   generalize (T ++ B).length = N at *
   refine ⟨.normal, ⟨0, [(1, .imm x), (4, int64 (IntKind.wrap .i64 (a + w))), (7, .imm (.slice C 0 N cap)), (8, int64 N), (9, int64 ((i : Int) + 1))], [.rich [.imm (.val (.int .u8 o.k)), strV o.s, .imm o.l.iv, int64 o.room, int64 o.fn]]⟩, ?_, .inl ⟨rfl, n - 1, by omega, i + 1, by omega, ?_⟩⟩
   ·simp -implicitDefEqProofs [x639L1, hlt, hlt', hel, hs, hwv, h1, e1]
   ·rw [hz1, ha]
    simp -implicitDefEqProofs
 ·have : i = (T ++ B).length := by omega
  subst this
  have hz : (T ++ B).length - T.length = B.length := by omega
  rw [hz, List.take_length]
  have hws : ∃ x, wasV T = .imm x := by
   unfold wasV
   split
   ·exact ⟨_, rfl⟩
   ·exact ⟨_, rfl⟩
  obtain ⟨x, hws⟩ := hws
  rw [hws]
  refine ⟨.exit 0, ⟨0, [(1, .imm x), (4, int64 (askSum B)), (7, .imm (.slice C 0 (T ++ B).length cap)), (8, int64 (T ++ B).length), (9, int64 (T ++ B).length), (10, avb false)], []⟩, ?_, .inr ⟨by simp, rfl, rfl⟩⟩
  generalize (T ++ B).length = N at *
  simp -implicitDefEqProofs [x639L1]
theorem za8 (h : code 639 = some x639) (h1 : code 578 = some x578) {T B : List Obj} {C : List IV} (cap : Option Nat) (hC : cut C 0 ((T ++ B).length * 5) = some (tObj.row (T ++ B))) (hn : (T ++ B).length ≤ 100000000) :
  callW code ext 639 [.imm (.slice C 0 (T ++ B).length cap), wasV T] [] = some (int64 (askSum B), []) := by
 have hws : ∃ x, wasV T = .imm x := by
  unfold wasV
  split
  ·exact ⟨_, rfl⟩
  ·exact ⟨_, rfl⟩
 obtain ⟨x, hws⟩ := hws
 obtain ⟨e, s', l1, _, rfl, rfl⟩ := za7 (ext := ext) h1 cap hC hn ⟨0, [(1, wasV T), (4, int64 0), (7, .imm (.slice C 0 (T ++ B).length cap)), (8, int64 (T ++ B).length), (9, int64 0)], []⟩ (by rw [hws]; generalize (T ++ B).length = N; simp -implicitDefEqProofs)
 rw [hws] at l1 ⊢
 rw [zbs code ext h]
 unfold x639
 generalize x639L1 = L at *
 generalize (T ++ B).length = N at *
 simp -implicitDefEqProofs [l1]
end
end Go.EX


namespace Go.EX
abbrev i8v (n : Int) : AV := .imm (.val (.int .u8 n))
abbrev strv (s : ByteArray) : AV := .imm (.val (.string s))
abbrev aval (k n : Int) : AV := .agg [i8v k, int64 n]
abbrev kindT : ByteArray := ⟨#[107, 105, 110, 100]⟩
abbrev zeroT : ByteArray := ⟨#[122, 101, 114, 111]⟩
def wholeR (op a b : Int) : Int × Int × ByteArray :=
 if op = 1 then (2, IntKind.wrap .i64 (a + b), .empty)
 else if op = 2 then (2, IntKind.wrap .i64 (a - b), .empty)
 else if op = 3 then (2, IntKind.wrap .i64 (a * b), .empty)
 else if op = 6 then (1, (if a < b then 1 else 0), .empty)
 else if op = 7 then (1, (if a ≤ b then 1 else 0), .empty)
 else if op ≠ 4 ∧ op ≠ 5 then (0, 0, kindT)
 else if b = 0 then (0, 0, zeroT)
 else if op = 4 then (2, (if b = -1 then IntKind.wrap .i64 (0 - a) else IntKind.wrap .i64 (a.tdiv b)), .empty)
 else (2, (if b = -1 then 0 else a.tmod b), .empty)
section
variable {code : Nat → Option XFun} {ext : Calls'}
structure WholeCode (code : Nat → Option XFun) : Prop where
 c579 : code 579 = some x579
 c582 : code 582 = some x582
 c583 : code 583 = some x583
 c584 : code 584 = some x584
 c585 : code 585 = some x585
 c586 : code 586 = some x586
 c587 : code 587 = some x587
 c588 : code 588 = some x588
 c589 : code 589 = some x589
theorem zu2 (c : WholeCode code) (n : Int) : callW code ext 589 [int64 n] [] = some (aval 2 n, []) := by
 rw [zbs code ext c.c589]
 simp -implicitDefEqProofs [x589]
theorem ztx (c : WholeCode code) (b : Bool) : callW code ext 588 [avb b] [] = some (aval 1 (if b then 1 else 0), []) := by
 rw [zbs code ext c.c588]
 cases b <;> simp -implicitDefEqProofs [x588]
theorem sign1 (c : WholeCode code) (a b : Int) : callW code ext 583 [int64 a, int64 b] [] = some (aval 2 (IntKind.wrap .i64 (a + b)), []) := by
 rw [zbs code ext c.c583]
 simp -implicitDefEqProofs [x583, zu2 c]
theorem sign2 (c : WholeCode code) (a b : Int) : callW code ext 584 [int64 a, int64 b] [] = some (aval 2 (IntKind.wrap .i64 (a - b)), []) := by
 rw [zbs code ext c.c584]
 simp -implicitDefEqProofs [x584, zu2 c]
theorem sign3 (c : WholeCode code) (a b : Int) : callW code ext 585 [int64 a, int64 b] [] = some (aval 2 (IntKind.wrap .i64 (a * b)), []) := by
 rw [zbs code ext c.c585]
 simp -implicitDefEqProofs [x585, zu2 c]
theorem sign4 (c : WholeCode code) (a b : Int) : callW code ext 586 [int64 a, int64 b] [] = some (aval 1 (if a < b then 1 else 0), []) := by
 rw [zbs code ext c.c586]
 simp -implicitDefEqProofs [x586, ztx c]
theorem sign5 (c : WholeCode code) (a b : Int) : callW code ext 587 [int64 a, int64 b] [] = some (aval 1 (if a ≤ b then 1 else 0), []) := by
 rw [zbs code ext c.c587]
 simp -implicitDefEqProofs [x587, ztx c]
abbrev signRow : AObj := .rich [i8v 1, .clo 583 [], i8v 2, .clo 584 [], i8v 3, .clo 585 [], i8v 6, .clo 586 [], i8v 7, .clo 587 []]
theorem zc6 {β : Type} (l : List β) : copies 5 l = l ++ (l ++ (l ++ (l ++ l))) := by simp [copies]
theorem zsd (c : WholeCode code) : callW code ext 582 [] [] = some (.osl 0 0 2 5 (some 5), [signRow]) := by
 rw [zbs code ext c.c582]
 simp -implicitDefEqProofs [x582, zc6]
structure WholeAt (code : Nat → Option XFun) (ext : Calls') (op a b : Int) (i : Nat) (s : St) : Prop where
 env : s.tidy [0, 1, 2, 6, 10, 11, 12] = { k := 0, env := [(0, i8v op), (1, int64 a), (2, int64 b), (6, .optr 0 0), (10, .osl 1 0 2 5 (some 5)), (11, int64 5), (12, int64 i)], mem := [.rich [i8v 0, int64 0], signRow] }
theorem zu3 (c : WholeCode code) {op a b : Int} {i : Nat} {s : St} (h : WholeAt code ext op a b i s) {o : Int} {f : Nat} (hi : i < 5) (h1 : ([i8v 1, .clo 583 [], i8v 2, .clo 584 [], i8v 3, .clo 585 [], i8v 6, .clo 586 [], i8v 7, .clo 587 []] : List AV)[i * 2]? = some (i8v o)) (hne : ¬ o = op) :
  ∃ s', den code ext x579L1 (s.tidy [0, 1, 2, 6, 10, 11, 12]) = some (.normal, s') ∧ WholeAt code ext op a b (i + 1) s' := by
 rw [h.env]
 match i, hi with
 | 0, _ => cases h1; exact ⟨_, by simp -implicitDefEqProofs [x579L1, hne]; rfl, ⟨by simp -implicitDefEqProofs; rfl⟩⟩
 | 1, _ => cases h1; exact ⟨_, by simp -implicitDefEqProofs [x579L1, hne]; rfl, ⟨by simp -implicitDefEqProofs; rfl⟩⟩
 | 2, _ => cases h1; exact ⟨_, by simp -implicitDefEqProofs [x579L1, hne]; rfl, ⟨by simp -implicitDefEqProofs; rfl⟩⟩
 | 3, _ => cases h1; exact ⟨_, by simp -implicitDefEqProofs [x579L1, hne]; rfl, ⟨by simp -implicitDefEqProofs; rfl⟩⟩
 | 4, _ => cases h1; exact ⟨_, by simp -implicitDefEqProofs [x579L1, hne]; rfl, ⟨by simp -implicitDefEqProofs; rfl⟩⟩
theorem zuy (c : WholeCode code) {op a b : Int} {s : St} (h : WholeAt code ext op a b 5 s) :
  ∃ s', den code ext x579L1 (s.tidy [0, 1, 2, 6, 10, 11, 12]) = some (.exit 0, s') ∧ s'.k = 0 ∧ s'.env.get 0 = i8v op ∧ s'.env.get 1 = int64 a ∧ s'.env.get 2 = int64 b ∧ s'.env.get 6 = .optr 0 0 ∧ s'.mem = [.rich [i8v 0, int64 0], signRow] := by
 rw [h.env]
 exact ⟨_, by simp -implicitDefEqProofs [x579L1]; rfl, by simp -implicitDefEqProofs, by simp -implicitDefEqProofs, by simp -implicitDefEqProofs, by simp -implicitDefEqProofs, by simp -implicitDefEqProofs, by simp -implicitDefEqProofs⟩
theorem zu0 (c : WholeCode code) {op a b k n : Int} {i : Nat} {s : St} (h : WholeAt code ext op a b i s) {f : Nat} (hi : i < 5) (h1 : ([i8v 1, .clo 583 [], i8v 2, .clo 584 [], i8v 3, .clo 585 [], i8v 6, .clo 586 [], i8v 7, .clo 587 []] : List AV)[i * 2]? = some (i8v op)) (h2 : ([i8v 1, .clo 583 [], i8v 2, .clo 584 [], i8v 3, .clo 585 [], i8v 6, .clo 586 [], i8v 7, .clo 587 []] : List AV)[i * 2 + 1]? = some (.clo f []))
  (hf : callW code ext f [int64 a, int64 b] [] = some (aval k n, [])) :
  ∃ s', den code ext x579L1 (s.tidy [0, 1, 2, 6, 10, 11, 12]) = some (.ret, s') ∧ s'.k = 0 ∧ s'.env.get 6 = .optr 0 0 ∧ s'.env.get 7 = strv .empty ∧ ∃ m, s'.mem = [.rich [i8v k, int64 n], signRow] ++ m := by
 rw [h.env]
 match i, hi with
 | 0, _ => cases h1; cases h2; exact ⟨_, by simp -implicitDefEqProofs [x579L1, hf]; rfl, by simp -implicitDefEqProofs, by simp -implicitDefEqProofs, by simp -implicitDefEqProofs, _, by simp -implicitDefEqProofs; rfl⟩
 | 1, _ => cases h1; cases h2; exact ⟨_, by simp -implicitDefEqProofs [x579L1, hf]; rfl, by simp -implicitDefEqProofs, by simp -implicitDefEqProofs, by simp -implicitDefEqProofs, _, by simp -implicitDefEqProofs; rfl⟩
 | 2, _ => cases h1; cases h2; exact ⟨_, by simp -implicitDefEqProofs [x579L1, hf]; rfl, by simp -implicitDefEqProofs, by simp -implicitDefEqProofs, by simp -implicitDefEqProofs, _, by simp -implicitDefEqProofs; rfl⟩
 | 3, _ => cases h1; cases h2; exact ⟨_, by simp -implicitDefEqProofs [x579L1, hf]; rfl, by simp -implicitDefEqProofs, by simp -implicitDefEqProofs, by simp -implicitDefEqProofs, _, by simp -implicitDefEqProofs; rfl⟩
 | 4, _ => cases h1; cases h2; exact ⟨_, by simp -implicitDefEqProofs [x579L1, hf]; rfl, by simp -implicitDefEqProofs, by simp -implicitDefEqProofs, by simp -implicitDefEqProofs, _, by simp -implicitDefEqProofs; rfl⟩
theorem zuz (c : WholeCode code) {op a b k n : Int} {f : Nat} (j : Nat) (hj : j < 5) (h1 : ([i8v 1, .clo 583 [], i8v 2, .clo 584 [], i8v 3, .clo 585 [], i8v 6, .clo 586 [], i8v 7, .clo 587 []] : List AV)[j * 2]? = some (i8v op)) (h2 : ([i8v 1, .clo 583 [], i8v 2, .clo 584 [], i8v 3, .clo 585 [], i8v 6, .clo 586 [], i8v 7, .clo 587 []] : List AV)[j * 2 + 1]? = some (.clo f []))
  (hf : callW code ext f [int64 a, int64 b] [] = some (aval k n, [])) : ∀ (d : Nat) (s : St), d ≤ j → WholeAt code ext op a b (j - d) s →
  ∃ s', den code ext (.loop [0, 1, 2, 6, 10, 11, 12] x579L1) s = some (.ret, s') ∧ s'.k = 0 ∧ s'.env.get 6 = .optr 0 0 ∧ s'.env.get 7 = strv .empty ∧ ∃ m, s'.mem = [.rich [i8v k, int64 n], signRow] ++ m := by
 intro d
 induction d with
 | zero =>
  intro s _ h
  obtain ⟨s', e1, e2⟩ := zu0 c h hj h1 h2 hf
  exact ⟨s', by rw [zdn, e1]; rfl, e2⟩
 | succ d ih =>
  intro s hd h
  have : ∃ o g, ([i8v 1, .clo 583 [], i8v 2, .clo 584 [], i8v 3, .clo 585 [], i8v 6, .clo 586 [], i8v 7, .clo 587 []] : List AV)[(j - (d + 1)) * 2]? = some (i8v o) ∧ ¬ o = op ∧ g = f := by
   match j, hj with
   | 0, _ => omega
   | 1, _ => cases h1; match d, hd with
    | 0, _ => exact ⟨1, f, rfl, by decide, rfl⟩
   | 2, _ => cases h1; match d, hd with
    | 0, _ => exact ⟨2, f, rfl, by decide, rfl⟩
    | 1, _ => exact ⟨1, f, rfl, by decide, rfl⟩
   | 3, _ => cases h1; match d, hd with
    | 0, _ => exact ⟨3, f, rfl, by decide, rfl⟩
    | 1, _ => exact ⟨2, f, rfl, by decide, rfl⟩
    | 2, _ => exact ⟨1, f, rfl, by decide, rfl⟩
   | 4, _ => cases h1; match d, hd with
    | 0, _ => exact ⟨6, f, rfl, by decide, rfl⟩
    | 1, _ => exact ⟨3, f, rfl, by decide, rfl⟩
    | 2, _ => exact ⟨2, f, rfl, by decide, rfl⟩
    | 3, _ => exact ⟨1, f, rfl, by decide, rfl⟩
  obtain ⟨o, g, ho, hne, _⟩ := this
  obtain ⟨s', e1, e2⟩ := zu3 c h (f := f) (by omega) ho hne
  have e3 : j - (d + 1) + 1 = j - d := by omega
  rw [e3] at e2
  obtain ⟨s2, f1, f2⟩ := ih s' (by omega) e2
  exact ⟨s2, by rw [zdn, e1]; exact f1, f2⟩
theorem zu1 (c : WholeCode code) {op a b : Int} (h1 : ¬ 1 = op) (h2 : ¬ 2 = op) (h3 : ¬ 3 = op) (h6 : ¬ 6 = op) (h7 : ¬ 7 = op) (s : St) (h : WholeAt code ext op a b 0 s) :
  ∃ s', den code ext (.loop [0, 1, 2, 6, 10, 11, 12] x579L1) s = some (.exit 0, s') ∧ s'.k = 0 ∧ s'.env.get 0 = i8v op ∧ s'.env.get 1 = int64 a ∧ s'.env.get 2 = int64 b ∧ s'.env.get 6 = .optr 0 0 ∧ s'.mem = [.rich [i8v 0, int64 0], signRow] := by
 obtain ⟨s1, e1, f1⟩ := zu3 c h (f := 0) (o := 1) (by omega) rfl h1
 obtain ⟨s2, e2, f2⟩ := zu3 c f1 (f := 0) (o := 2) (by omega) rfl h2
 obtain ⟨s3, e3, f3⟩ := zu3 c f2 (f := 0) (o := 3) (by omega) rfl h3
 obtain ⟨s4, e4, f4⟩ := zu3 c f3 (f := 0) (o := 6) (by omega) rfl h6
 obtain ⟨s5, e5, f5⟩ := zu3 c f4 (f := 0) (o := 7) (by omega) rfl h7
 obtain ⟨s6, e6, f6⟩ := zuy c f5
 refine ⟨s6, ?_, f6⟩
 rw [zdn, e1, andThen, zdn, e2, andThen, zdn, e3, andThen, zdn, e4, andThen, zdn, e5, andThen, zdn, e6]
 rfl
theorem zu6 (c : WholeCode code) {op a b k n : Int} {f : Nat} (j : Nat) (hj : j < 5) (h1 : ([i8v 1, .clo 583 [], i8v 2, .clo 584 [], i8v 3, .clo 585 [], i8v 6, .clo 586 [], i8v 7, .clo 587 []] : List AV)[j * 2]? = some (i8v op)) (h2 : ([i8v 1, .clo 583 [], i8v 2, .clo 584 [], i8v 3, .clo 585 [], i8v 6, .clo 586 [], i8v 7, .clo 587 []] : List AV)[j * 2 + 1]? = some (.clo f []))
  (hf : callW code ext f [int64 a, int64 b] [] = some (aval k n, [])) : callW code ext 579 [i8v op, int64 a, int64 b] [] = some (.tup [aval k n, strv .empty], []) := by
 have hl := fun s => zuz c j hj h1 h2 hf j s (Nat.le_refl _)
 rw [Nat.sub_self] at hl
 rw [zbs code ext c.c579]
 unfold x579
 generalize x579L1 = L at *
 simp -implicitDefEqProofs [zsd c]
 generalize hs : (St.mk 0 _ _) = s
 obtain ⟨s', e1, e2, e3, e4, m, e5⟩ := hl s ⟨by subst hs; simp -implicitDefEqProofs⟩
 obtain ⟨k', env', mem'⟩ := s'
 simp only at e2 e3 e4 e5
 subst e2 e5
 simp -implicitDefEqProofs [e1, e3, e4]
end
end Go.EX


namespace Go.EX
section
variable {code : Nat → Option XFun} {ext : Calls'}
theorem zu5 (c : WholeCode code) (op a b k n : Int) (t : ByteArray) (h1 : ¬ 1 = op) (h2 : ¬ 2 = op) (h3 : ¬ 3 = op) (h6 : ¬ 6 = op) (h7 : ¬ 7 = op)
  (hr : (op ≠ 4 ∧ op ≠ 5 ∧ k = 0 ∧ n = 0 ∧ t = kindT) ∨ (op = 4 ∨ op = 5) ∧ b = 0 ∧ k = 0 ∧ n = 0 ∧ t = zeroT ∨ op = 4 ∧ b = -1 ∧ k = 2 ∧ n = IntKind.wrap .i64 (0 - a) ∧ t = .empty ∨ op = 5 ∧ b = -1 ∧ k = 2 ∧ n = 0 ∧ t = .empty
   ∨ op = 4 ∧ b ≠ 0 ∧ b ≠ -1 ∧ k = 2 ∧ n = IntKind.wrap .i64 (a.tdiv b) ∧ t = .empty ∨ op = 5 ∧ b ≠ 0 ∧ b ≠ -1 ∧ k = 2 ∧ n = a.tmod b ∧ t = .empty) :
  callW code ext 579 [i8v op, int64 a, int64 b] [] = some (.tup [aval k n, strv t], []) := by
 have hl := fun s => zu1 (a := a) (b := b) (ext := ext) c h1 h2 h3 h6 h7 s
 have s6 := fun n => zu2 (ext := ext) c n
 rw [zbs code ext c.c579]
 unfold x579
 generalize x579L1 = L at *
 simp -implicitDefEqProofs [zsd c]
 generalize hs : (St.mk 0 _ _) = s
 obtain ⟨s', e1, e2, e3, e4, e5, e6, e7⟩ := hl s ⟨by subst hs; simp -implicitDefEqProofs⟩
 obtain ⟨k', env', mem'⟩ := s'
 simp only at e2 e3 e4 e5 e6 e7
 subst e2 e7
 rcases hr with ⟨h4, h5, rfl, rfl, rfl⟩ | ⟨rfl | rfl, rfl, rfl, rfl, rfl⟩ | ⟨rfl, rfl, rfl, rfl, rfl⟩ | ⟨rfl, rfl, rfl, rfl, rfl⟩ | ⟨rfl, hb, hm, rfl, rfl, rfl⟩ | ⟨rfl, hb, hm, rfl, rfl, rfl⟩
 ·simp -implicitDefEqProofs [e1, e3, e4, e5, e6, h4, h5]
 ·simp -implicitDefEqProofs [e1, e3, e4, e5, e6]
 ·simp -implicitDefEqProofs [e1, e3, e4, e5, e6]
 ·simp -implicitDefEqProofs [e1, e3, e4, e5, e6, s6]
 ·simp -implicitDefEqProofs [e1, e3, e4, e5, e6, s6]
 ·simp -implicitDefEqProofs [e1, e3, e4, e5, e6, s6, hb, hm]
 ·simp -implicitDefEqProofs [e1, e3, e4, e5, e6, s6, hb, hm]
theorem zu7 (c : WholeCode code) (op a b : Int) : callW code ext 579 [i8v op, int64 a, int64 b] [] = some (.tup [aval (wholeR op a b).1 (wholeR op a b).2.1, strv (wholeR op a b).2.2], []) := by
 unfold wholeR
 by_cases h1 : op = 1
 ·subst h1; exact zu6 c 0 (by omega) rfl rfl (sign1 c a b)
 rw [if_neg h1]
 by_cases h2 : op = 2
 ·subst h2; exact zu6 c 1 (by omega) rfl rfl (sign2 c a b)
 rw [if_neg h2]
 by_cases h3 : op = 3
 ·subst h3; exact zu6 c 2 (by omega) rfl rfl (sign3 c a b)
 rw [if_neg h3]
 by_cases h6 : op = 6
 ·subst h6; exact zu6 c 3 (by omega) rfl rfl (sign4 c a b)
 rw [if_neg h6]
 by_cases h7 : op = 7
 ·subst h7; exact zu6 c 4 (by omega) rfl rfl (sign5 c a b)
 rw [if_neg h7]
 refine zu5 c op a b _ _ _ (fun h => h1 h.symm) (fun h => h2 h.symm) (fun h => h3 h.symm) (fun h => h6 h.symm) (fun h => h7 h.symm) ?_
 by_cases h45 : op ≠ 4 ∧ op ≠ 5
 ·rw [if_pos h45]; exact .inl ⟨h45.1, h45.2, rfl, rfl, rfl⟩
 ·rw [if_neg h45]
  have h45' : op = 4 ∨ op = 5 := by omega
  by_cases hb : b = 0
  ·rw [if_pos hb]; exact .inr (.inl ⟨h45', hb, rfl, rfl, rfl⟩)
  ·rw [if_neg hb]
   rcases h45' with rfl | rfl
   ·rw [if_pos rfl]
    by_cases hm : b = -1
    ·simp [hm]
    ·simp [hm, hb]
   ·by_cases hm : b = -1
    ·simp [hm]
    ·simp [hm, hb]
end
end Go.EX


namespace Go.EX
abbrev didP (k n : Int) (t : ByteArray) : AV := .agg [.imm (.val (.int .u8 k)), int64 n, strV t, avb false]
abbrev greatN : ByteArray := ⟨#[103, 114, 101, 97, 116]⟩
abbrev boundsN : ByteArray := ⟨#[98, 111, 117, 110, 100, 115]⟩
def sM (nl : Bool) (T : List Obj) : Mem := if nl = true then [.rich [nilS, int64 1152921504606846976, int64 0]] else [.rich [.osl 1 0 5 T.length (some T.length), int64 1152921504606846976, int64 0], .flat (tObj.row T) false]
def sK (nl : Bool) (T : List Obj) (o : Obj) (w : Int) : Mem := if nl = true then [.rich [.osl 1 0 5 1 none, int64 1152921504606846976, int64 w], .flat (tObj.row (T ++ [o])) false] else [.rich [.osl 2 0 5 (T.length + 1) none, int64 1152921504606846976, int64 w], .flat (tObj.row T) false, .flat (tObj.row (T ++ [o])) false]
structure PlainFns (code : Nat → Option XFun) : Prop where
 whole : WholeCode code
 c206 : code 206 = some x206
 c209 : code 209 = some x209
 c210 : code 210 = some x210
 c211 : code 211 = some x211
 c212 : code 212 = some x212
 c213 : code 213 = some x213
 c214 : code 214 = some x214
 c216 : code 216 = some x216
 c218 : code 218 = some x218
 c219 : code 219 = some x219
 c208 : code 208 = some x208
 c578 : code 578 = some x578
 c580 : code 580 = some x580
 c581 : code 581 = some x581
 c742 : code 742 = some x742
def textN (t : ByteArray) : Obj := ⟨3, t, ⟨.val (.slice none 0 0), [], ⟨by simp, by simp, .inl ⟨rfl, rfl⟩⟩⟩, 0, 0⟩
section
variable {code : Nat → Option XFun} {ext : Calls'}
theorem zlk (h : code 213 = some x213) {T : List Obj} {q : Nat} (k n : Int) (hq : (q : Int) = n - 1) (hN : q < T.length) (hb : T.length ≤ 1000000000) :
  callW code ext 213 [.optr 0 0, .agg [.imm (.val (.int .u8 k)), int64 n]] (sM false T) = some (.optr 1 (q * 5), sM false T) := by
 have e1 : IntKind.wrap .i64 (n - 1) = (q : Nat) := by rw [← hq]; exact wrapI64 (by omega) (by omega)
 have h2 : (q : Int) < T.length := by omega
 rw [zbs code ext h]
 unfold sM
 generalize tObj.row T = R
 generalize T.length = N at *
 simp -implicitDefEqProofs [x213, e1, hN, h2]
theorem zl0 (h : code 218 = some x218) (nl : Bool) (T : List Obj) {w : Int} (h0 : 0 ≤ w) (h1 : w ≤ 1000000) :
  callW code ext 218 [.optr 0 0, int64 w] (sM nl T) = some (avb true, if nl = true then [.rich [nilS, int64 1152921504606846976, int64 w]] else [.rich [.osl 1 0 5 T.length (some T.length), int64 1152921504606846976, int64 w], .flat (tObj.row T) false]) := by
 have e1 : IntKind.wrap .i64 w = w := wrapI64 (by omega) (by omega)
 have h2 : ¬ (1152921504606846976 : Int) < w := by omega
 rw [zbs code ext h]
 unfold sM
 generalize tObj.row T = R
 cases nl <;> simp -implicitDefEqProofs [x218, e1, h2]
theorem zl2 (t : ByteArray) (ht : t.size ≤ 4096) : 0 ≤ wordsObj (textN t) ∧ wordsObj (textN t) ≤ 1000 := by
 have e1 : IntKind.wrap .i64 ((t.size : Int) + 7) = (t.size : Int) + 7 := wrapI64 (by omega) (by omega)
 have e2 : ((t.size : Int) + 7).tdiv 8 = ((t.size : Int) + 7) / 8 := Int.tdiv_eq_ediv_of_nonneg (by omega)
 have e3 : IntKind.wrap .i64 (((t.size : Int) + 7) / 8) = ((t.size : Int) + 7) / 8 := wrapI64 (by omega) (by omega)
 have e4 : IntKind.wrap .i64 (2 + ((t.size : Int) + 7) / 8) = 2 + ((t.size : Int) + 7) / 8 := wrapI64 (by omega) (by omega)
 have : wordsObj (textN t) = 2 + ((t.size : Int) + 7) / 8 := by
  unfold wordsObj
  rw [if_pos (show (textN t).k = 3 from rfl)]
  show IntKind.wrap .i64 (2 + IntKind.wrap .i64 ((IntKind.wrap .i64 ((t.size : Int) + 7)).tdiv 8)) = _
  rw [e1, e2, e3, e4]
 rw [this]
 omega
theorem zlj (c : PlainFns code) {nl : Bool} {T : List Obj} (hnl : nl = true → T = []) (hn : T.length ≤ 100000000) (t : ByteArray) (ht : t.size ≤ 4096) :
  callW code ext 212 [.optr 0 0, .agg [.imm (.val (.int .u8 3)), strV t, nilS, int64 0, int64 0]] (sM nl T) =
   some (didP 3 ((T.length + 1 : Nat) : Int) .empty, sK nl T (textN t) (wordsObj (textN t))) := by
 obtain ⟨m, hs⟩ := zsh (ext := ext) c.c578 (textN t)
 obtain ⟨w0, w1⟩ := zl2 t ht
 have hr : tObj.row (T ++ [textN t]) = tObj.row T ++ [.val (.int .u8 3), .val (.string t), .val (.slice none 0 0), .val (.int .i64 0), .val (.int .i64 0)] := by unfold Ty.row; simp [tObj, textN]
 have hc : cut (tObj.row T) 0 (T.length * 5) = some (tObj.row T) := zdh tObj T
 generalize wordsObj (textN t) = w at *
 have htk := zl0 (ext := ext) c.c218 nl T w0 (by omega)
 simp only [textN] at hs
 cases nl with
 | true =>
  have hT := hnl rfl
  subst hT
  have hr0 : tObj.row ([] : List Obj) = [] := rfl
  rw [hr0] at hr
  simp only [List.nil_append] at hr
  rw [zbs code ext c.c212]
  unfold sM sK at *
  simp only [if_true, List.nil_append] at htk ⊢
  rw [hr]
  simp -implicitDefEqProofs [x212, hs, htk, exAppendX, exAppend, elems]
 | false =>
  rw [zbs code ext c.c212]
  unfold sM sK at *
  rw [hr]
  simp only [Bool.false_eq_true, if_false] at htk
  generalize tObj.row T = R at *
  have hle : (T.length + 1) * 64 ≤ 140737488355328 := by omega
  have hno : ¬ (T.length + 1 ≤ T.length) := by omega
  generalize T.length = N at *
  simp -implicitDefEqProofs [x212, hs, htk, exAppendX, exAppend, elems, hc, hle, hno]
theorem zl1 (c : PlainFns code) {nl : Bool} {T : List Obj} (hnl : nl = true → T = []) (hn : T.length ≤ 100000000) (t : ByteArray) :
  callW code ext 219 [.optr 0 0, strV t] (sM nl T) = if t.size ≤ 4096 then some (didP 3 ((T.length + 1 : Nat) : Int) .empty, sK nl T (textN t) (wordsObj (textN t))) else some (didP 0 0 greatN, sM nl T) := by
 by_cases ht : t.size ≤ 4096
 ·rw [if_pos ht]
  have hm := zlj (ext := ext) c hnl hn t ht
  generalize wordsObj (textN t) = w at *
  have ht' : ¬ (4096 : Int) < t.size := by omega
  have ht'' : ¬ 4096 < t.size := by omega
  rw [zbs code ext c.c219]
  unfold sM sK at *
  generalize tObj.row (T ++ [textN t]) = R2 at *
  generalize tObj.row T = R at *
  generalize ((T.length + 1 : Nat) : Int) = N at *
  cases nl
  ·simp only [Bool.false_eq_true, if_false] at hm ⊢
   simp -implicitDefEqProofs [x219, hm, ht', ht'']
  ·simp only [if_true] at hm ⊢
   simp -implicitDefEqProofs [x219, hm, ht', ht'']
 ·rw [if_neg ht]
  have ht' : (4096 : Int) < t.size := by omega
  have ht'' : 4096 < t.size := by omega
  rw [zbs code ext c.c219]
  unfold sM
  generalize tObj.row T = R at *
  cases nl <;> simp -implicitDefEqProofs [x219, ht', ht'']
end
end Go.EX


namespace Go.EX
def textV (T : List Obj) (v : Val) : ByteArray := match objOf T v with
 | some o => o.s
 | none => .empty
def sameN (T : List Obj) (a b : Val) : Bool :=
 if a.k ≠ b.k then false else if a.k = 3 then decide (textV T a = textV T b) else decide (a.k = 0) || decide (a.n = b.n)
def TextOk (T : List Obj) (v : Val) : Prop := v.k = 3 → ∃ k, leadsOf T v = some k
def AtV (T : List Obj) (xs : List Val) (k : Val) (r : Int) : Prop :=
 (r = -1 ∧ ∀ (j : Nat) a, xs[2 * j]? = some a → sameN T a k = false) ∨ ∃ (j : Nat) (a : Val), r = (2 * j : Nat) ∧ xs[2 * j]? = some a ∧ sameN T a k = true ∧ ∀ (i : Nat) b, i < j → xs[2 * i]? = some b → sameN T b k = false
theorem zi2 {v : Val} {k : Nat} (h : leadsOf [] v = some k) : False := by
 have := (ziy h).1
 simp at this
section
variable {code : Nat → Option XFun} {ext : Calls'}
theorem zqt {T : List Obj} {q : Nat} {o : Obj} (h : T[q]? = some o) : (tObj.row T)[q * 5 + 1]? = some (.val (.string o.s)) := by
 have := zdd (zf4 (t := tObj) h) 1 (by decide)
 simpa [tObj] using this
theorem zlx (c : PlainFns code) {nl : Bool} {T : List Obj} (hnl : nl = true → T = []) (hn : T.length ≤ 100000000) {a b : Val} (ha : TextOk T a) (hb : TextOk T b) :
  callW code ext 216 [.optr 0 0, .agg [.imm (.val (.int .u8 a.k)), int64 a.n], .agg [.imm (.val (.int .u8 b.k)), int64 b.n]] (sM nl T) = some (avb (sameN T a b), sM nl T) := by
 unfold sameN
 by_cases hk : a.k = b.k
 ·rw [if_neg (by simpa using hk)]
  by_cases h3 : a.k = 3
  ·rw [if_pos h3]
   obtain ⟨q, hq⟩ := ha h3
   obtain ⟨p, hp⟩ := hb (by omega)
   cases nl with
   | true =>
    have := hnl rfl
    subst this
    exact absurd hq (fun h => zi2 h)
   | false =>
    obtain ⟨q1, q2, _, _, o, q3, q4⟩ := ziy hq
    obtain ⟨p1, p2, _, _, u, p3, p4⟩ := ziy hp
    have t1 : textV T a = o.s := by unfold textV objOf; rw [hq]; simp [q3]
    have t2 : textV T b = u.s := by unfold textV objOf; rw [hp]; simp [p3]
    rw [t1, t2]
    have f1 := zlk (ext := ext) c.c213 a.k a.n q2 q1 (by omega)
    have f2 := zlk (ext := ext) c.c213 b.k b.n p2 p1 (by omega)
    have g1 := zqt q3
    have g2 := zqt p3
    have hb3 : b.k = 3 := by omega
    rw [zbs code ext c.c216]
    unfold sM at *
    simp only [Bool.false_eq_true, if_false] at f1 f2 ⊢
    rw [h3] at f1
    rw [hb3] at f2
    generalize tObj.row T = R at *
    generalize T.length = N at *
    simp -implicitDefEqProofs [x216, h3, hb3, f1, f2, g1, g2, exLook]
  ·rw [if_neg h3]
   rw [zbs code ext c.c216]
   unfold sM
   generalize tObj.row T = R at *
   have h3' : ¬ b.k = 3 := by omega
   rw [hk] at h3 ⊢
   by_cases h0 : b.k = 0
   ·cases nl <;> simp -implicitDefEqProofs [x216, h0]
   ·cases nl <;> simp -implicitDefEqProofs [x216, h3', h0]
 ·rw [if_pos hk]
  rw [zbs code ext c.c216]
  unfold sM
  generalize tObj.row T = R at *
  cases nl <;> simp -implicitDefEqProofs [x216, hk]
abbrev atMem (nl : Bool) (T : List Obj) (k : Val) : Mem := if nl = true then [.rich [nilS, int64 1152921504606846976, int64 0], .rich [.imm (.val (.int .u8 k.k)), int64 k.n]] else [.rich [.osl 1 0 5 T.length (some T.length), int64 1152921504606846976, int64 0], .flat (tObj.row T) false, .rich [.imm (.val (.int .u8 k.k)), int64 k.n]]
abbrev atEnv (nl : Bool) (iv : IV) (i : Nat) : Env := [(0, .optr 0 0), (1, .imm iv), (5, .optr (if nl = true then 1 else 2) 0), (7, int64 i)]
theorem zk9 (c : PlainFns code) {nl : Bool} {T : List Obj} (hnl : nl = true → T = []) (hn : T.length ≤ 100000000) {iv : IV} {xs : List Val} (hr : Reads tVal iv xs) (hl : xs.length ≤ 1000000) {k : Val} (hk : TextOk T k) (hx : ∀ (j : Nat) a, xs[2 * j]? = some a → TextOk T a) :
  ∀ (m : Nat) (st : St), (∃ j, m + 2 * j = xs.length + 2 ∧ (∀ (i : Nat) b, i < j → xs[2 * i]? = some b → sameN T b k = false) ∧ st.tidy [0, 1, 5, 7] = ⟨if nl = true then 1 else 2, atEnv nl iv (2 * j), atMem nl T k⟩) →
   ∃ x s', den code ext (.loop [0, 1, 5, 7] x209L1) st = some (x, s') ∧ x ≠ .normal ∧ ∃ r, AtV T xs k r ∧ ((x = .exit 0 ∧ r = -1 ∧ ∃ env, s' = ⟨if nl = true then 1 else 2, env, atMem nl T k⟩) ∨ (x = .ret ∧ s' = ⟨if nl = true then 1 else 2, [(6, int64 r)], atMem nl T k⟩)) := by
 have elen := zo6 hr
 refine zjt _ _ ?_
 rintro m st ⟨j, hm, hno, hst⟩
 rw [hst]
 by_cases hlt : 2 * j < xs.length
 ·obtain ⟨a, ha⟩ : ∃ a, xs[2 * j]? = some a := ⟨_, List.getElem?_eq_getElem hlt⟩
  obtain ⟨row, off, cap, rfl, _, _, hcut⟩ := zo7 hr ha
  have hcut' : cut row (off + (2 * j) * 2) 2 = some [.val (.int .u8 a.k), .val (.int .i64 a.n)] := hcut
  have f1 := zlx (ext := ext) c hnl hn (hx j a ha) hk
  obtain ⟨i, hi⟩ : ∃ i, i = 2 * j := ⟨_, rfl⟩
  obtain ⟨i2, hi2⟩ : ∃ i2, i2 = 2 * j + 2 := ⟨_, rfl⟩
  rw [← hi] at hcut' hlt ⊢
  have e1 : (i : Int) < xs.length := by omega
  have e2 : IntKind.wrap .i64 ((i : Int) + 2) = (i2 : Int) := by rw [wrapI64 (by omega) (by omega)]; omega
  cases hs : sameN T a k with
  | true =>
   rw [hs] at f1
   refine ⟨.ret, ⟨if nl = true then 1 else 2, [(6, int64 i)], atMem nl T k⟩, ?_, .inr ⟨by simp, (i : Int), .inr ⟨j, a, by omega, ha, hs, hno⟩, .inr ⟨rfl, rfl⟩⟩⟩
   unfold sM at f1
   cases nl
   ·simp only [atMem, atEnv, Bool.false_eq_true, if_false] at f1 ⊢
    generalize tObj.row T = R at *
    generalize T.length = N at *
    generalize xs.length = n at *
    simp -implicitDefEqProofs [x209L1, f1, hcut', e1, hlt, exPeek]
   ·simp only [atMem, atEnv, if_true] at f1 ⊢
    generalize tObj.row T = R at *
    generalize T.length = N at *
    generalize xs.length = n at *
    simp -implicitDefEqProofs [x209L1, f1, hcut', e1, hlt, exPeek]
  | false =>
   rw [hs] at f1
   refine ⟨.normal, ⟨if nl = true then 1 else 2, atEnv nl (.slice row off xs.length cap) i2, atMem nl T k⟩, ?_, .inl ⟨rfl, m - 2, by omega, j + 1, by omega, ?_, ?_⟩⟩
   ·unfold sM at f1
    cases nl
    ·simp only [atMem, atEnv, Bool.false_eq_true, if_false] at f1 ⊢
     generalize tObj.row T = R at *
     generalize T.length = N at *
     generalize xs.length = n at *
     simp -implicitDefEqProofs [x209L1, f1, hcut', e1, e2, hlt, exPeek]
    ·simp only [atMem, atEnv, if_true] at f1 ⊢
     generalize tObj.row T = R at *
     generalize T.length = N at *
     generalize xs.length = n at *
     simp -implicitDefEqProofs [x209L1, f1, hcut', e1, e2, hlt, exPeek]
   ·intro q b hq hb
    by_cases hqj : q = j
    ·subst hqj
     rw [ha] at hb
     cases hb
     exact hs
    ·exact hno q b (by omega) hb
   ·have hjj : 2 * (j + 1) = i2 := by omega
    rw [hjj]
    cases nl
    ·simp only [atMem, atEnv, Bool.false_eq_true, if_false]
     generalize tObj.row T = R at *
     generalize T.length = N at *
     generalize xs.length = n at *
     simp -implicitDefEqProofs []
    ·simp only [atMem, atEnv, if_true]
     generalize tObj.row T = R at *
     generalize T.length = N at *
     generalize xs.length = n at *
     simp -implicitDefEqProofs []
 ·refine ⟨.exit 0, ⟨if nl = true then 1 else 2, atEnv nl iv (2 * j) ++ [(11, avb false)], atMem nl T k⟩, ?_, .inr ⟨by simp, -1, .inl ⟨rfl, fun q b hb => ?_⟩, .inl ⟨rfl, rfl, _, rfl⟩⟩⟩
  ·obtain ⟨i, hi⟩ : ∃ i, i = 2 * j := ⟨_, rfl⟩
   rw [← hi] at hlt ⊢
   have e1 : ¬ (i : Int) < xs.length := by omega
   cases nl
   ·simp only [atMem, atEnv, Bool.false_eq_true, if_false]
    generalize tObj.row T = R at *
    generalize T.length = N at *
    generalize xs.length = n at *
    simp -implicitDefEqProofs [x209L1, elen, e1, hlt]
   ·simp only [atMem, atEnv, if_true]
    generalize tObj.row T = R at *
    generalize T.length = N at *
    generalize xs.length = n at *
    simp -implicitDefEqProofs [x209L1, elen, e1, hlt]
  ·have := (List.getElem?_eq_some_iff.1 hb).1
   exact hno q b (by omega) hb
theorem zla (c : PlainFns code) {nl : Bool} {T : List Obj} (hnl : nl = true → T = []) (hn : T.length ≤ 100000000) {iv : IV} {xs : List Val} (hr : Reads tVal iv xs) (hl : xs.length ≤ 1000000) {k : Val} (hk : TextOk T k) (hx : ∀ (j : Nat) a, xs[2 * j]? = some a → TextOk T a) :
  ∃ r, AtV T xs k r ∧ callW code ext 209 [.optr 0 0, .imm iv, .agg [.imm (.val (.int .u8 k.k)), int64 k.n]] (sM nl T) = some (int64 r, sM nl T) := by
 obtain ⟨x, s', h1, _, r, hr1, hq⟩ := zk9 (code := code) (ext := ext) c hnl hn hr hl hk hx (xs.length + 2) ⟨if nl = true then 1 else 2, atEnv nl iv 0, atMem nl T k⟩ ⟨0, by omega, fun i b hi => absurd hi (Nat.not_lt_zero i), by
  cases nl
  ·simp only [atMem, atEnv, Bool.false_eq_true, if_false]
   generalize tObj.row T = R at *
   generalize T.length = N at *
   simp -implicitDefEqProofs []
  ·simp only [atMem, atEnv, if_true]
   generalize tObj.row T = R at *
   generalize T.length = N at *
   simp -implicitDefEqProofs []⟩
 refine ⟨r, hr1, ?_⟩
 rw [zbs code ext c.c209]
 unfold sM
 cases nl
 ·simp only [atMem, atEnv, Bool.false_eq_true, if_false, Int.natCast_zero] at *
  generalize tObj.row T = R at *
  generalize T.length = N at *
  rcases hq with ⟨rfl, rfl, env, rfl⟩ | ⟨rfl, rfl⟩
  ·simp -implicitDefEqProofs [x209, h1]
  ·simp -implicitDefEqProofs [x209, h1]
 ·simp only [atMem, atEnv, if_true, Int.natCast_zero] at *
  generalize tObj.row T = R at *
  generalize T.length = N at *
  rcases hq with ⟨rfl, rfl, env, rfl⟩ | ⟨rfl, rfl⟩
  ·simp -implicitDefEqProofs [x209, h1]
  ·simp -implicitDefEqProofs [x209, h1]
end
end Go.EX


set_option maxHeartbeats 1000000
namespace Go.EX
def putT (nl : Bool) (T : List Obj) (t : ByteArray) : Option (AV × Mem) :=
 if t.size ≤ 4096 then some (didP 3 ((T.length + 1 : Nat) : Int) .empty, sK nl T (textN t) (wordsObj (textN t))) else some (didP 0 0 greatN, sM nl T)
section
variable {code : Nat → Option XFun} {ext : Calls'}
theorem zig (h : code 581 = some x581) (v k : Val) :
  callW code ext 581 [.agg [.imm (.val (.int .u8 v.k)), int64 v.n], .agg [.imm (.val (.int .u8 k.k)), int64 k.n]] [] = some (avb (decide (v.k = 5) || ((decide (v.k = 4) || decide (v.k = 3)) && decide (k.k = 2))), []) := by
 rw [zbs code ext h]
 by_cases h5 : v.k = 5
 ·simp -implicitDefEqProofs [x581, h5]
 ·by_cases h4 : v.k = 4
  ·simp -implicitDefEqProofs [x581, h4]
  ·by_cases h3 : v.k = 3
   ·simp -implicitDefEqProofs [x581, h3]
   ·simp -implicitDefEqProofs [x581, h5, h4, h3]
theorem zk6 (c : PlainFns code) (nl : Bool) (T : List Obj) (a b : Int) :
  callW code ext 210 [.optr 0 0, .imm (.val (.int .u8 1)), .agg [.imm (.val (.int .u8 2)), int64 a], .agg [.imm (.val (.int .u8 2)), int64 b]] (sM nl T) = some (didP 2 (IntKind.wrap .i64 (a + b)) .empty, sM nl T) := by
 have h : callW code ext 579 [.imm (.val (.int .u8 1)), int64 a, int64 b] [] = some (.tup [.agg [.imm (.val (.int .u8 2)), int64 (IntKind.wrap .i64 (a + b))], strV .empty], []) := zu7 (ext := ext) c.whole 1 a b
 generalize IntKind.wrap .i64 (a + b) = z at *
 rw [zbs code ext c.c210]
 unfold sM
 generalize tObj.row T = R
 cases nl <;> simp -implicitDefEqProofs [x210, h]
theorem zk7 (c : PlainFns code) (nl : Bool) (T : List Obj) {a b : Val} (h2 : ¬ (a.k = 2 ∧ b.k = 2)) (h3 : ¬ (a.k = 3 ∧ b.k = 3)) :
  callW code ext 210 [.optr 0 0, .imm (.val (.int .u8 1)), .agg [.imm (.val (.int .u8 a.k)), int64 a.n], .agg [.imm (.val (.int .u8 b.k)), int64 b.n]] (sM nl T) = some (didP 0 0 kindT, sM nl T) := by
 rw [zbs code ext c.c210]
 unfold sM
 generalize tObj.row T = R
 by_cases a2 : a.k = 2
 ·have b2 : ¬ b.k = 2 := fun h => h2 ⟨a2, h⟩
  cases nl <;> simp -implicitDefEqProofs [x210, a2, b2]
 ·by_cases a3 : a.k = 3
  ·have b3 : ¬ b.k = 3 := fun h => h3 ⟨a3, h⟩
   cases nl <;> simp -implicitDefEqProofs [x210, a3, b3]
  ·cases nl <;> simp -implicitDefEqProofs [x210, a2, a3]
theorem zk8 (c : PlainFns code) {T : List Obj} (hn : T.length ≤ 100000000) {a b : Val} {p q : Nat} {o u : Obj} (a3 : a.k = 3) (b3 : b.k = 3) (ha : leadsOf T a = some p) (hb : leadsOf T b = some q) (ho : T[p]? = some o) (hu : T[q]? = some u) (so : o.s.size ≤ 4096) (su : u.s.size ≤ 4096) :
  callW code ext 210 [.optr 0 0, .imm (.val (.int .u8 1)), .agg [.imm (.val (.int .u8 a.k)), int64 a.n], .agg [.imm (.val (.int .u8 b.k)), int64 b.n]] (sM false T) = putT false T (o.s ++ u.s) := by
 obtain ⟨q1, q2, _⟩ := ziy ha
 obtain ⟨p1, p2, _⟩ := ziy hb
 have f1 := zlk (ext := ext) c.c213 a.k a.n q2 q1 (by omega)
 have f2 := zlk (ext := ext) c.c213 b.k b.n p2 p1 (by omega)
 have g1 := zqt ho
 have g2 := zqt hu
 have f3 := zl1 (ext := ext) c (nl := false) (T := T) (fun h => by cases h) hn (o.s ++ u.s)
 have hsz : o.s.size + u.s.size ≤ 9223372036854775807 := by omega
 rw [a3] at f1 ⊢
 rw [b3] at f2 ⊢
 rw [zbs code ext c.c210]
 unfold putT sK sM at *
 simp only [Bool.false_eq_true, if_false] at f1 f2 f3 ⊢
 generalize tObj.row T = R at *
 generalize ht0 : o.s ++ u.s = t at *
 generalize wordsObj (textN t) = w at *
 generalize tObj.row (T ++ [textN t]) = R2 at *
 generalize ((T.length + 1 : Nat) : Int) = N1 at *
 by_cases ht : t.size ≤ 4096
 ·rw [if_pos ht] at f3 ⊢
  simp -implicitDefEqProofs [x210, f1, f2, g1, g2, f3, hsz, ht0, exLook]
 ·rw [if_neg ht] at f3 ⊢
  simp -implicitDefEqProofs [x210, f1, f2, g1, g2, f3, hsz, ht0, exLook]
theorem zlc (c : PlainFns code) (nl : Bool) (T : List Obj) {v k : Val} (hk : ¬ (v.k = 5 ∨ ((v.k = 4 ∨ v.k = 3) ∧ k.k = 2))) :
  callW code ext 211 [.optr 0 0, .agg [.imm (.val (.int .u8 v.k)), int64 v.n], .agg [.imm (.val (.int .u8 k.k)), int64 k.n]] (sM nl T) = some (didP 0 0 kindT, sM nl T) := by
 have f1 := zig (ext := ext) c.c581 v k
 have hf : (decide (v.k = 5) || ((decide (v.k = 4) || decide (v.k = 3)) && decide (k.k = 2))) = false := by
  cases h : (decide (v.k = 5) || ((decide (v.k = 4) || decide (v.k = 3)) && decide (k.k = 2))) with
  | false => rfl
  | true => exact absurd (by simpa using h) hk
 rw [hf] at f1
 rw [zbs code ext c.c211]
 unfold sM
 generalize tObj.row T = R
 cases nl <;> simp -implicitDefEqProofs [x211, f1]
theorem zqm {T : List Obj} {q : Nat} {o : Obj} (h : T[q]? = some o) : (tObj.row T)[q * 5 + 2]? = some o.l.iv := by
 have := zdd (zf4 (t := tObj) h) 2 (by decide)
 simpa [tObj] using this
theorem zle (c : PlainFns code) {T : List Obj} (hn : T.length ≤ 100000000) {v k : Val} {q : Nat} {o : Obj} (v5 : v.k = 5) (hq : leadsOf T v = some q) (ho : T[q]? = some o) (hl : o.l.xs.length ≤ 1000000) (hev : o.l.xs.length % 2 = 0)
  (hk : TextOk T k) (hx : ∀ (j : Nat) a, o.l.xs[2 * j]? = some a → TextOk T a) :
  ∃ x : Val, (x = ⟨0, 0⟩ ∨ x ∈ o.l.xs) ∧ callW code ext 211 [.optr 0 0, .agg [.imm (.val (.int .u8 v.k)), int64 v.n], .agg [.imm (.val (.int .u8 k.k)), int64 k.n]] (sM false T) = some (didP x.k x.n .empty, sM false T) := by
 have f1 := zig (ext := ext) c.c581 v k
 obtain ⟨q1, q2, _⟩ := ziy hq
 have f2 := zlk (ext := ext) c.c213 v.k v.n q2 q1 (by omega)
 have g1 := zqm ho
 obtain ⟨r, hr, f3⟩ := zla (ext := ext) c (nl := false) (T := T) (fun h => by cases h) hn o.l.ok hl hk hx
 rw [v5] at f1 f2 ⊢
 rcases hr with ⟨rfl, _⟩ | ⟨j, a, rfl, ha, _⟩
 ·refine ⟨⟨0, 0⟩, .inl rfl, ?_⟩
  rw [zbs code ext c.c211]
  unfold sM at *
  simp only [Bool.false_eq_true, if_false] at f2 f3 ⊢
  generalize tObj.row T = R at *
  simp -implicitDefEqProofs [x211, f1, f2, f3, g1, exLook, exPeek]
 ·have hj := (List.getElem?_eq_some_iff.1 ha).1
  obtain ⟨x, hx1⟩ : ∃ x, o.l.xs[2 * j + 1]? = some x := ⟨_, List.getElem?_eq_getElem (by omega)⟩
  obtain ⟨row, off, cap, hiv, _, _, hcut⟩ := zo7 o.l.ok hx1
  obtain ⟨i1, hi1⟩ : ∃ i1, i1 = 2 * j + 1 := ⟨_, rfl⟩
  rw [← hi1] at hcut
  have hcut' : cut row (off + i1 * 2) 2 = some [.val (.int .u8 x.k), .val (.int .i64 x.n)] := hcut
  have e1 : IntKind.wrap .i64 (((2 * j : Nat) : Int) + 1) = (i1 : Int) := by rw [wrapI64 (by omega) (by omega)]; omega
  have e2 : (i1 : Int) < o.l.xs.length := by omega
  have e2' : i1 < o.l.xs.length := by omega
  refine ⟨x, .inr (List.mem_of_getElem? hx1), ?_⟩
  obtain ⟨r, hr0⟩ : ∃ r, r = 2 * j := ⟨_, rfl⟩
  rw [← hr0] at f3 e1
  rw [hiv] at f3 g1
  rw [zbs code ext c.c211]
  unfold sM at *
  simp only [Bool.false_eq_true, if_false] at f2 f3 ⊢
  generalize tObj.row T = R at *
  generalize o.l.xs.length = n at *
  simp -implicitDefEqProofs [x211, f1, f2, f3, g1, hcut', e1, e2, e2', exLook, exPeek]
theorem zld (c : PlainFns code) {T : List Obj} (hn : T.length ≤ 100000000) {v k : Val} {q : Nat} {o : Obj} (v4 : v.k = 4) (k2 : k.k = 2) (hq : leadsOf T v = some q) (ho : T[q]? = some o) (hl : o.l.xs.length ≤ 1000000) (hs : o.s = .empty) :
  (∃ x : Val, x ∈ o.l.xs ∧ callW code ext 211 [.optr 0 0, .agg [.imm (.val (.int .u8 v.k)), int64 v.n], .agg [.imm (.val (.int .u8 k.k)), int64 k.n]] (sM false T) = some (didP x.k x.n .empty, sM false T)) ∨
  callW code ext 211 [.optr 0 0, .agg [.imm (.val (.int .u8 v.k)), int64 v.n], .agg [.imm (.val (.int .u8 k.k)), int64 k.n]] (sM false T) = some (didP 0 0 boundsN, sM false T) := by
 have f1 := zig (ext := ext) c.c581 v k
 obtain ⟨q1, q2, _⟩ := ziy hq
 have f2 := zlk (ext := ext) c.c213 v.k v.n q2 q1 (by omega)
 have g1 := zqm ho
 have g2 := zqt ho
 have elen := zo6 o.l.ok
 rw [v4, k2] at f1
 rw [v4] at f2
 rw [v4, k2]
 have e0 : IntKind.wrap .i64 ((o.l.xs.length : Int) + 0) = (o.l.xs.length : Int) := wrapI64 (by omega) (by omega)
 have e0' : IntKind.wrap .i64 (o.l.xs.length : Int) = (o.l.xs.length : Int) := wrapI64 (by omega) (by omega)
 have hz : ByteArray.empty.size = 0 := rfl
 rw [hs] at g2
 by_cases hb : k.n < 0 ∨ (o.l.xs.length : Int) ≤ k.n
 ·right
  rw [zbs code ext c.c211]
  unfold sM at *
  simp only [Bool.false_eq_true, if_false] at f2 ⊢
  generalize tObj.row T = R at *
  generalize o.l.xs.length = n at *
  by_cases h0 : k.n < 0
  ·simp -implicitDefEqProofs [x211, f1, f2, g1, g2, h0, exLook]
  ·have h1 : (n : Int) ≤ k.n := hb.resolve_left h0
   simp -implicitDefEqProofs [x211, f1, f2, g1, g2, h0, h1, elen, e0, e0', hz, exLook]
 ·left
  have h0 : ¬ k.n < 0 := fun h => hb (.inl h)
  have h1 : ¬ (o.l.xs.length : Int) ≤ k.n := fun h => hb (.inr h)
  obtain ⟨j, hj⟩ : ∃ j : Nat, k.n = j := ⟨k.n.toNat, by omega⟩
  obtain ⟨x, hx1⟩ : ∃ x, o.l.xs[j]? = some x := ⟨_, List.getElem?_eq_getElem (by omega)⟩
  obtain ⟨row, off, cap, hiv, _, _, hcut⟩ := zo7 o.l.ok hx1
  have hcut' : cut row (off + j * 2) 2 = some [.val (.int .u8 x.k), .val (.int .i64 x.n)] := hcut
  have e2 : (j : Int) < o.l.xs.length := by omega
  have e2' : j < o.l.xs.length := by omega
  have e3 : ¬ (o.l.xs.length : Int) ≤ j := by omega
  have e3' : ¬ o.l.xs.length ≤ j := by omega
  refine ⟨x, List.mem_of_getElem? hx1, ?_⟩
  rw [hj] at f1 ⊢
  have hj0 : ¬ (j : Int) < 0 := by omega
  rw [hiv] at g1
  rw [zbs code ext c.c211]
  unfold sM at *
  simp only [Bool.false_eq_true, if_false] at f2 ⊢
  rw [hiv] at elen
  generalize tObj.row T = R at *
  generalize o.l.xs.length = n at *
  simp -implicitDefEqProofs [x211, f1, f2, g1, g2, hj0, hcut', e0, e0', e2, e2', e3, e3', elen, hz, exLook]
theorem zlf (c : PlainFns code) {T : List Obj} (hn : T.length ≤ 100000000) {v k : Val} {q : Nat} {o : Obj} (v3 : v.k = 3) (k2 : k.k = 2) (hq : leadsOf T v = some q) (ho : T[q]? = some o) (hl : o.l.xs = []) (hs : o.s.size ≤ 4096) :
  (∃ t : ByteArray, t.size ≤ 4096 ∧ callW code ext 211 [.optr 0 0, .agg [.imm (.val (.int .u8 v.k)), int64 v.n], .agg [.imm (.val (.int .u8 k.k)), int64 k.n]] (sM false T) = some (didP 3 ((T.length + 1 : Nat) : Int) .empty, sK false T (textN t) (wordsObj (textN t)))) ∨
  callW code ext 211 [.optr 0 0, .agg [.imm (.val (.int .u8 v.k)), int64 v.n], .agg [.imm (.val (.int .u8 k.k)), int64 k.n]] (sM false T) = some (didP 0 0 boundsN, sM false T) := by
 have f1 := zig (ext := ext) c.c581 v k
 obtain ⟨q1, q2, _⟩ := ziy hq
 have f2 := zlk (ext := ext) c.c213 v.k v.n q2 q1 (by omega)
 have g1 := zqm ho
 have g2 := zqt ho
 have elen := zo6 o.l.ok
 rw [v3, k2] at f1
 rw [v3] at f2
 rw [v3, k2]
 rw [hl, List.length_nil] at elen
 have e0 : IntKind.wrap .i64 ((0 : Int) + (o.s.size : Int)) = (o.s.size : Int) := by rw [wrapI64 (by omega) (by omega)]; omega
 have e0' : IntKind.wrap .i64 (o.s.size : Int) = (o.s.size : Int) := wrapI64 (by omega) (by omega)
 by_cases hb : k.n < 0 ∨ (o.s.size : Int) ≤ k.n
 ·right
  rw [zbs code ext c.c211]
  unfold sM at *
  simp only [Bool.false_eq_true, if_false] at f2 ⊢
  generalize tObj.row T = R at *
  by_cases h0 : k.n < 0
  ·simp -implicitDefEqProofs [x211, f1, f2, g1, g2, h0, exLook]
  ·have h1 : (o.s.size : Int) ≤ k.n := hb.resolve_left h0
   simp -implicitDefEqProofs [x211, f1, f2, g1, g2, h0, h1, elen, e0, e0', exLook]
 ·left
  have h0 : ¬ k.n < 0 := fun h => hb (.inl h)
  have h1 : ¬ (o.s.size : Int) ≤ k.n := fun h => hb (.inr h)
  obtain ⟨j, hj⟩ : ∃ j : Nat, k.n = j := ⟨k.n.toNat, by omega⟩
  obtain ⟨j1, hj1⟩ : ∃ j1, j1 = j + 1 := ⟨_, rfl⟩
  have e1 : IntKind.wrap .i64 ((j : Int) + 1) = (j1 : Int) := by rw [wrapI64 (by omega) (by omega)]; omega
  have e3 : ¬ (o.s.size : Int) ≤ j := by omega
  have e3' : ¬ o.s.size ≤ j := by omega
  have e4 : (j : Int) ≤ j1 := by omega
  have e4' : j ≤ j1 := by omega
  have e5 : (j1 : Int) ≤ o.s.size := by omega
  have e5' : j1 ≤ o.s.size := by omega
  have f3 := fun t => zl1 (ext := ext) c (nl := false) (T := T) (fun h => by cases h) hn t
  refine ⟨o.s.extract j j1, ?_, ?_⟩
  ·rw [ByteArray.size_extract]; omega
  have hsz : (o.s.extract j j1).size ≤ 4096 := by rw [ByteArray.size_extract]; omega
  have f3 := f3 (o.s.extract j j1)
  rw [if_pos hsz] at f3
  rw [hj] at f1 ⊢
  have hj0 : ¬ (j : Int) < 0 := by omega
  rw [zbs code ext c.c211]
  unfold sM sK at *
  simp only [Bool.false_eq_true, if_false] at f2 f3 ⊢
  generalize tObj.row (T ++ [textN (o.s.extract j j1)]) = R2 at *
  generalize wordsObj (textN (o.s.extract j j1)) = w at *
  generalize tObj.row T = R at *
  generalize ((T.length + 1 : Nat) : Int) = N1 at *
  simp -implicitDefEqProofs [x211, f1, f2, f3, g1, g2, hj0, e0, e0', e1, e3, e3', e4, e4', e5, e5', elen, exLook]
end
end Go.EX


namespace Go.EX
def rowN (kk : Int) (l : Sl tVal) (room : Int) : Obj := ⟨kk, .empty, l, room, 0⟩
def sL (nl : Bool) (T : List Obj) (W : List IV) (u : Int) : Mem := if nl = true then [.rich [nilS, int64 1152921504606846976, int64 u], .flat W false] else [.rich [.osl 2 0 5 T.length (some T.length), int64 1152921504606846976, int64 u], .flat W false, .flat (tObj.row T) false]
theorem zqb {R : List IV} {p : Nat} (h : R.length = p) (a b x d e : IV) (v : AV) : R.map AV.imm ++ [.imm a, .imm b, v, .imm d, .imm e] = richRow (R ++ [a, b, x, d, e]) (p + 2) v := by
 subst h
 unfold richRow
 rw [List.map_append, List.set_append_right _ _ (by simp)]
 simp
def sKL (nl : Bool) (T : List Obj) (o : Obj) (W : List IV) (v : AV) (w : Int) : Mem :=
 if nl = true then [.rich [.osl 2 0 5 1 none, int64 1152921504606846976, int64 w], .flat W false, .rich (richRow (tObj.row [o]) 2 v)]
 else [.rich [.osl 3 0 5 (T.length + 1) none, int64 1152921504606846976, int64 w], .flat W false, .flat (tObj.row T) false, .rich (richRow (tObj.row (T ++ [o])) (T.length * 5 + 2) v)]
section
variable {code : Nat → Option XFun} {ext : Calls'}
theorem zvg (kk : Int) (hk : kk = 4 ∨ kk = 5) (l : Sl tVal) (room : Int) (h0 : 0 < room) (h1 : room ≤ 400000) : wordsObj (rowN kk l room) = 4 + 2 * room := by
 have e3 : IntKind.wrap .i64 (2 * room) = 2 * room := wrapI64 (by omega) (by omega)
 have e4 : IntKind.wrap .i64 (4 + 2 * room) = 4 + 2 * room := wrapI64 (by omega) (by omega)
 unfold wordsObj rowN
 dsimp only
 rcases hk with rfl | rfl
 ·rw [if_neg (by decide), if_neg (by decide), if_pos ⟨.inl rfl, h0⟩, e3, e4]
 ·rw [if_neg (by decide), if_neg (by decide), if_pos ⟨.inr rfl, h0⟩, e3, e4]
theorem zli (c : PlainFns code) {nl : Bool} {T : List Obj} (hnl : nl = true → T = []) (hn : T.length ≤ 100000000) (kk : Int) (hk : kk = 4 ∨ kk = 5) {l : Sl tVal} {n : Nat} {W : List IV} {cap : Option Nat} (hiv : l.iv = .slice W 0 n cap) (room : Int) (h0 : 0 < room) (h1 : room ≤ 400000) :
  callW code ext 212 [.optr 0 0, .agg [.imm (.val (.int .u8 kk)), strV .empty, .osl 1 0 2 n cap, int64 room, int64 0]] (sL nl T W 0) =
   some (didP kk ((T.length + 1 : Nat) : Int) .empty, sKL nl T (rowN kk l room) W (.osl 1 0 2 n cap) (wordsObj (rowN kk l room))) := by
 obtain ⟨m, hs⟩ := zsh (ext := ext) c.c578 (rowN kk l room)
 have hww := zvg kk hk l room h0 h1
 have hr : tObj.row (T ++ [rowN kk l room]) = tObj.row T ++ [.val (.int .u8 kk), .val (.string .empty), .slice W 0 n cap, .val (.int .i64 room), .val (.int .i64 0)] := by unfold Ty.row; simp [tObj, rowN, hiv]
 have hr1 : tObj.row [rowN kk l room] = [.val (.int .u8 kk), .val (.string .empty), .slice W 0 n cap, .val (.int .i64 room), .val (.int .i64 0)] := by unfold Ty.row; simp [tObj, rowN, hiv]
 have hrl := zqn tObj T
 have hrs := zqb (R := tObj.row T) (p := T.length * 5) hrl (.val (.int .u8 kk)) (.val (.string .empty)) (.slice W 0 n cap) (.val (.int .i64 room)) (.val (.int .i64 0)) (.osl 1 0 2 n cap)
 rw [← hr] at hrs
 have hrf := zpe (R := tObj.row (T ++ [rowN kk l room])) (p := T.length * 5 + 2) (v := .osl 1 0 2 n cap) (by rw [hr, List.length_append, hrl]; simp [tObj])
 have p1 := zpu
 obtain ⟨w, hwe⟩ : ∃ w, w = wordsObj (rowN kk l room) := ⟨_, rfl⟩
 have hc2 : cut (tObj.row T) 0 (T.length * 5) = some (tObj.row T) := zdh tObj T
 rw [← hwe] at hs hww
 have htk := zl0 (ext := ext) c.c218 nl T (w := w) (by omega) (by omega)
 simp only [rowN, hiv] at hs
 rw [zbs code ext c.c212]
 cases nl with
 | true =>
  have hT := hnl rfl
  subst hT
  unfold sM sL sKL at *
  rw [hr1, ← hwe]
  simp only [if_true] at htk ⊢
  simp -implicitDefEqProofs [x212, hs, htk, exAppendX, exAppend, exAppendR, elemsR, elems, richRow]
 | false =>
  unfold sM sL sKL at *
  rw [← hwe]
  simp only [Bool.false_eq_true, if_false] at htk ⊢
  clear hr hr1
  generalize tObj.row (T ++ [rowN kk l room]) = R1 at *
  generalize tObj.row T = R0 at *
  have hle : (T.length + 1) * 64 ≤ 140737488355328 := by omega
  have hno : ¬ (T.length + 1 ≤ T.length) := by omega
  generalize T.length = N at *
  simp -implicitDefEqProofs [x212, hs, htk, exAppendX, exAppend, exAppendR, elemsR, elems, hc2, hle, hno, hrs, hrf, p1]
end
end Go.EX


namespace Go.EX
def sKP (nl : Bool) (T : List Obj) (o : Obj) (W : List IV) (n : Nat) (cap : Option Nat) (w : Int) : Mem :=
 if nl = true then [.rich [.osl 1 0 5 1 none, int64 1152921504606846976, int64 w], .rich (richRow (tObj.row [o]) 2 (.osl 2 0 2 n cap)), .flat W false]
 else [.rich [.osl 2 0 5 (T.length + 1) none, int64 1152921504606846976, int64 w], .flat (tObj.row T) false, .rich (richRow (tObj.row (T ++ [o])) (T.length * 5 + 2) (.osl 3 0 2 n cap)), .flat W false]
section
variable {code : Nat → Option XFun} {ext : Calls'}
def slOf (xs : List Val) (cap : Option Nat) (hw : ∀ x ∈ xs, tVal.wf x) (hl : xs.length ≤ 140737488355328) (hc : ∀ c, cap = some c → xs.length ≤ c) : Sl tVal := ⟨.slice (tVal.row xs) 0 xs.length cap, xs, zo8 _ _ hw hl hc⟩
theorem npairs (c : PlainFns code) {nl : Bool} {T : List Obj} (hnl : nl = true → T = []) (hn : T.length ≤ 100000000) {lv : IV} {a b : Val} (hr : Reads tVal lv [a, b]) (ha : TextOk T a) (l : Sl tVal) (hiv : l.iv = .slice (tVal.row [a, b]) 0 2 none) :
  callW code ext 214 [.optr 0 0, .imm lv] (sM nl T) = some (didP 5 ((T.length + 1 : Nat) : Int) .empty, sKP nl T (rowN 5 l 2) (tVal.row [a, b]) 2 none (wordsObj (rowN 5 l 2))) := by
 have elen := zo6 hr
 rw [show ([a, b] : List Val).length = 2 from rfl] at elen
 obtain ⟨r, hr0, f1⟩ := zla (ext := ext) c hnl hn (iv := .val (.slice none 0 0)) (xs := []) ⟨by simp, by simp, .inl ⟨rfl, rfl⟩⟩ (by simp) ha (fun j a h => by simp at h)
 have hrm : r = -1 := by
  rcases hr0 with ⟨h, _⟩ | ⟨j, a, _, h, _⟩
  ·exact h
  ·simp at h
 subst hrm
 have f2 := zli (ext := ext) c hnl hn 5 (.inr rfl) hiv 2 (by decide) (by decide)
 obtain ⟨row, off, cap, hlv, _, _, hc0⟩ := zo7 hr (i := 0) (x := a) rfl
 subst hlv
 obtain ⟨row', off', cap', hlv, _, _, hc1⟩ := zo7 hr (i := 1) (x := b) rfl
 cases hlv
 have hc0' : cut row off 2 = some [.val (.int .u8 a.k), .val (.int .i64 a.n)] := by simpa [tVal] using hc0
 have hc1' : cut row (off + 2) 2 = some [.val (.int .u8 b.k), .val (.int .i64 b.n)] := by simpa [tVal] using hc1
 have hrow : tVal.row [a, b] = [.val (.int .u8 a.k), .val (.int .i64 a.n), .val (.int .u8 b.k), .val (.int .i64 b.n)] := rfl
 have w1 : IntKind.wrap .i64 (1 : Int) = 1 := rfl
 have w2 : IntKind.wrap .i64 (2 : Int) = 2 := rfl
 have w0 : IntKind.wrap .i64 (0 : Int) = 0 := rfl
 rw [hrow] at f2 ⊢
 have p1 := zpu
 rw [zbs code ext c.c214]
 unfold sM sL sKL sKP at *
 generalize wordsObj (rowN 5 l 2) = w at *
 cases nl with
 | true =>
  have hT := hnl rfl
  subst hT
  have hrf : ∀ v : AV, AV.refs.refsL (richRow (tObj.row [rowN 5 l 2]) 2 v) = v.refs := fun v => zpe (by rw [zqn]; simp [tObj])
  simp only [if_true] at f1 f2 ⊢
  simp -implicitDefEqProofs [x214, elen]
  rw [zdn]
  simp -implicitDefEqProofs [x214L1, f1, hc0', hc1', elen, w0, w1, w2, exPeek, exAppendX, exAppend, exAppendR, elemsR, elems]
  rw [zdn]
  simp -implicitDefEqProofs [x214L1, f2, w2, hrf, p1]
 | false =>
  have hrf : ∀ v : AV, AV.refs.refsL (richRow (tObj.row (T ++ [rowN 5 l 2])) (T.length * 5 + 2) v) = v.refs := fun v => zpe (by rw [zqn]; simp [tObj]; omega)
  simp only [Bool.false_eq_true, if_false] at f1 f2 ⊢
  generalize tObj.row (T ++ [rowN 5 l 2]) = R1 at *
  generalize tObj.row T = R0 at *
  generalize T.length = N at *
  simp -implicitDefEqProofs [x214, elen]
  rw [zdn]
  simp -implicitDefEqProofs [x214L1, f1, hc0', hc1', elen, w0, w1, w2, exPeek, exAppendX, exAppend, exAppendR, elemsR, elems]
  rw [zdn]
  simp -implicitDefEqProofs [x214L1, f2, w2, hrf, p1]
end
end Go.EX

