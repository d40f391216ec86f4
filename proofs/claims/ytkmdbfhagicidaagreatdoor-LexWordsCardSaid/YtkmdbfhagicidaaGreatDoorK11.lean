import Derived.Test.YtkmdbfhagicidaaGreatDoorK9
import Derived.Test.YtkmdbfhagicidaaGreatDoorK10
namespace Go.EX
def x452Z : XFun := ⟨[.tmp 2],
  (.seq (.region [0] [⟨(some 2), .mv (.c (.bool false)), none⟩])
  (.seq (.region [0, 3, 4, 5] [⟨(some 14), .mv (.t 0), none⟩,
    ⟨(some 15), .call .own 568 [(.t 14)], none⟩,
    ⟨(some 13), .mv (.t 15), none⟩,
    ⟨(some 16), .extract (.t 13) 0, none⟩,
    ⟨(some 17), .extract (.t 13) 1, none⟩,
    ⟨(some 18), .extract (.t 13) 2, none⟩,
    ⟨(some 3), .mv (.t 16), none⟩,
    ⟨(some 4), .mv (.t 17), none⟩,
    ⟨(some 5), .mv (.t 18), none⟩])
  (.seq (.region [0, 3, 4, 5, 6] [⟨(some 20), .mv (.t 0), none⟩,
    ⟨(some 21), .call .own 568 [(.t 20)], none⟩,
    ⟨(some 19), .mv (.t 21), none⟩,
    ⟨(some 22), .extract (.t 19) 0, none⟩,
    ⟨(some 23), .extract (.t 19) 1, none⟩,
    ⟨(some 24), .extract (.t 19) 2, none⟩,
    ⟨(some 6), .mv (.t 22), none⟩,
    ⟨(some 7), .mv (.t 23), none⟩,
    ⟨(some 8), .mv (.t 24), none⟩])
  (.seq (.region [3, 4, 5, 6, 9, 10, 11] [⟨(some 26), .mv (.t 0), none⟩,
    ⟨(some 27), .call .view 512 [(.t 26)], none⟩,
    ⟨(some 25), .mv (.t 27), none⟩,
    ⟨(some 28), .extract (.t 25) 0, none⟩,
    ⟨(some 29), .extract (.t 25) 1, none⟩,
    ⟨(some 30), .extract (.t 25) 2, none⟩,
    ⟨(some 9), .mv (.t 28), none⟩,
    ⟨(some 10), .mv (.t 29), none⟩,
    ⟨(some 11), .mv (.t 30), none⟩])
  (.seq (.seq (.region [3, 6, 50] [⟨(some 31), .mv (.t 4), none⟩,
    ⟨(some 32), .mv (.t 10), none⟩,
    ⟨(some 33), .bin .neq (.t 31) (.t 32), none⟩,
    ⟨(some 34), .mv (.t 33), none⟩,
    ⟨(some 35), .mv (.t 5), some (34, false)⟩,
    ⟨(some 36), .mv (.t 11), some (34, false)⟩,
    ⟨(some 37), .bin .neq (.t 35) (.t 36), some (34, false)⟩,
    ⟨(some 38), .pick (.t 34) (.c (.bool true)) (.t 37), none⟩,
    ⟨(some 39), .mv (.t 38), none⟩,
    ⟨(some 40), .mv (.t 3), some (39, false)⟩,
    ⟨(some 41), .mv (.t 9), some (39, false)⟩,
    ⟨(some 42), .call .view 358 [(.t 40), (.t 41)], some (39, false)⟩,
    ⟨(some 43), .un .not (.t 42), some (39, false)⟩,
    ⟨(some 44), .pick (.t 39) (.c (.bool true)) (.t 43), none⟩,
    ⟨(some 45), .mv (.t 44), none⟩,
    ⟨(some 46), .mv (.t 6), some (45, false)⟩,
    ⟨(some 47), .mv (.t 9), some (45, false)⟩,
    ⟨(some 48), .call .view 358 [(.t 46), (.t 47)], some (45, false)⟩,
    ⟨(some 49), .un .not (.t 48), some (45, false)⟩,
    ⟨(some 50), .pick (.t 45) (.c (.bool true)) (.t 49), none⟩])
  (.cond (.t 50)
    (.seq (.region [2] [⟨(some 2), .mv (.c (.bool false)), none⟩])
    .ret)
    .skip))
  (.seq (.region [3, 6, 12] [⟨(some 51), .build [(.int .i64 0), (.slice none 0 0), (.slice none 0 0), (.slice none 0 0), (.slice none 0 0), (.slice none 0 0), (.slice none 0 0), (.slice none 0 0), (.slice none 0 0), (.slice none 0 0), (.slice none 0 0), (.slice none 0 0), (.slice none 0 0), (.slice none 0 0), (.slice none 0 0), (.slice none 0 0), (.slice none 0 0), (.slice none 0 0), (.slice none 0 0), (.slice none 0 0), (.slice none 0 0)] [], none⟩,
    ⟨(some 12), .alloc [(.int .i64 0), (.slice none 0 0), (.slice none 0 0), (.slice none 0 0), (.slice none 0 0), (.slice none 0 0), (.slice none 0 0), (.slice none 0 0), (.slice none 0 0), (.slice none 0 0), (.slice none 0 0), (.slice none 0 0), (.slice none 0 0), (.slice none 0 0), (.slice none 0 0), (.slice none 0 0), (.slice none 0 0), (.slice none 0 0), (.slice none 0 0), (.slice none 0 0), (.slice none 0 0)], none⟩,
    ⟨none, .store 21 (.t 12) (.t 51), none⟩])
  (.seq (.region [6, 12] [⟨(some 52), .mv (.t 3), none⟩,
    ⟨(some 53), .call .share 15 [(.t 12), (.t 52)], none⟩])
  (.seq (.region [12] [⟨(some 54), .mv (.t 6), none⟩,
    ⟨(some 55), .call .share 15 [(.t 12), (.t 54)], none⟩])
  (.seq (.region [2] [⟨(some 56), .call .share 1 [(.t 12)], none⟩,
    ⟨(some 2), .mv (.t 56), none⟩])
  .ret)))))))))⟩
def x15 : XFun :=
 ⟨[],(.region [] [o0 4 (.mv (.t 0)),
 o0 5 (.mv (.t 1)),
 o0 6 (.call .share 65 [(.t 4),(.t 5)])])⟩
def x1 : XFun :=
 ⟨[.tmp 2],(.seq (.region [0] [⟨some 2,.mv (.c (.bool false)),none⟩]) (.seq (.region [0] [⟨some 3,.mv (.t 0),none⟩,
 ⟨some 4,.call .share 25 [.t 3],none⟩]) (.seq (.region [0] [⟨some 5,.mv (.t 0),none⟩,
 ⟨some 6,.call .share 29 [.t 5],none⟩]) (.seq (.region [0] [⟨some 7,.mv (.t 0),none⟩,
 ⟨some 8,.call .share 33 [.t 7],none⟩]) (.seq (.region [0] [⟨some 9,.mv (.t 0),none⟩,
 ⟨some 10,.call .share 34 [.t 9],none⟩]) (.seq (.region [0] [⟨some 11,.mv (.t 0),none⟩,
 ⟨some 12,.call .share 28 [.t 11],none⟩]) (.seq (.region [0] [⟨some 13,.mv (.t 0),none⟩,
 ⟨some 14,.call .share 24 [.t 13],none⟩]) (.seq (.region [0] [⟨some 15,.mv (.t 0),none⟩,
 ⟨some 16,.call .share 18 [.t 15],none⟩]) (.seq (.region [0] [⟨some 17,.mv (.t 0),none⟩,
 ⟨some 18,.call .share 17 [.t 17],none⟩]) (.seq (.region [0] [⟨some 19,.mv (.t 0),none⟩,
 ⟨some 20,.call .share 23 [.t 19],none⟩]) (.seq (.region [0] [⟨some 21,.mv (.t 0),none⟩,
 ⟨some 22,.call .share 22 [.t 21],none⟩]) (.seq (.region [0] [⟨some 23,.mv (.t 0),none⟩,
 ⟨some 24,.call .share 21 [.t 23],none⟩]) (.seq (.region [0] [⟨some 25,.mv (.t 0),none⟩,
 ⟨some 26,.call .share 32 [.t 25],none⟩]) (.seq (.region [0] [⟨some 27,.mv (.t 0),none⟩,
 ⟨some 28,.call .share 35 [.t 27],none⟩]) (.seq (.region [0] [⟨some 29,.mv (.t 0),none⟩,
 ⟨some 30,.call .share 30 [.t 29],none⟩]) (.seq (.region [0] [⟨some 31,.mv (.t 0),none⟩,
 ⟨some 32,.call .share 26 [.t 31],none⟩]) (.seq (.region [0] [⟨some 33,.mv (.t 0),none⟩,
 ⟨some 34,.call .share 20 [.t 33],none⟩]) (.seq (.region [0] [⟨some 35,.mv (.t 0),none⟩,
 ⟨some 36,.call .share 19 [.t 35],none⟩]) (.seq (.region [0] [⟨some 37,.mv (.t 0),none⟩,
 ⟨some 38,.call .share 27 [.t 37],none⟩]) (.seq (.region [0] [⟨some 39,.mv (.t 0),none⟩,
 ⟨some 40,.call .share 16 [.t 39],none⟩]) (.seq (.region [0] [⟨some 41,.mv (.t 0),none⟩,
 ⟨some 42,.call .share 31 [.t 41],none⟩]) (.seq (.region [0] [⟨some 43,.mv (.t 0),none⟩,
 ⟨some 44,.call .share 45 [.t 43],none⟩]) (.seq (.region [0] [⟨some 45,.mv (.t 0),none⟩,
 ⟨some 46,.call .share 49 [.t 45],none⟩]) (.seq (.region [0] [⟨some 47,.mv (.t 0),none⟩,
 ⟨some 48,.call .share 53 [.t 47],none⟩]) (.seq (.region [0] [⟨some 49,.mv (.t 0),none⟩,
 ⟨some 50,.call .share 54 [.t 49],none⟩]) (.seq (.region [0] [⟨some 51,.mv (.t 0),none⟩,
 ⟨some 52,.call .share 48 [.t 51],none⟩]) (.seq (.region [0] [⟨some 53,.mv (.t 0),none⟩,
 ⟨some 54,.call .share 44 [.t 53],none⟩]) (.seq (.region [0] [⟨some 55,.mv (.t 0),none⟩,
 ⟨some 56,.call .share 38 [.t 55],none⟩]) (.seq (.region [0] [⟨some 57,.mv (.t 0),none⟩,
 ⟨some 58,.call .share 37 [.t 57],none⟩]) (.seq (.region [0] [⟨some 59,.mv (.t 0),none⟩,
 ⟨some 60,.call .share 43 [.t 59],none⟩]) (.seq (.region [0] [⟨some 61,.mv (.t 0),none⟩,
 ⟨some 62,.call .share 42 [.t 61],none⟩]) (.seq (.region [0] [⟨some 63,.mv (.t 0),none⟩,
 ⟨some 64,.call .share 41 [.t 63],none⟩]) (.seq (.region [0] [⟨some 65,.mv (.t 0),none⟩,
 ⟨some 66,.call .share 52 [.t 65],none⟩]) (.seq (.region [0] [⟨some 67,.mv (.t 0),none⟩,
 ⟨some 68,.call .share 55 [.t 67],none⟩]) (.seq (.region [0] [⟨some 69,.mv (.t 0),none⟩,
 ⟨some 70,.call .share 50 [.t 69],none⟩]) (.seq (.region [0] [⟨some 71,.mv (.t 0),none⟩,
 ⟨some 72,.call .share 46 [.t 71],none⟩]) (.seq (.region [0] [⟨some 73,.mv (.t 0),none⟩,
 ⟨some 74,.call .share 40 [.t 73],none⟩]) (.seq (.region [0] [⟨some 75,.mv (.t 0),none⟩,
 ⟨some 76,.call .share 39 [.t 75],none⟩]) (.seq (.region [0] [⟨some 77,.mv (.t 0),none⟩,
 ⟨some 78,.call .share 47 [.t 77],none⟩]) (.seq (.region [0] [⟨some 79,.mv (.t 0),none⟩,
 ⟨some 80,.call .share 36 [.t 79],none⟩]) (.seq (.region [0] [⟨some 81,.mv (.t 0),none⟩,
 ⟨some 82,.call .share 51 [.t 81],none⟩]) (.seq (.region [2] [⟨some 83,.mv (.t 0),none⟩,
 ⟨some 84,.call .share 75 [.t 83],none⟩,
 ⟨some 85,.mv (.t 84),none⟩,
 ⟨some 86,.mv (.t 0), some (85, true)⟩,
 ⟨some 87,.call .share 79 [.t 86], some (85, true)⟩,
 ⟨some 88,.pick (.t 85) (.t 87) (.c (.bool false)),none⟩,
 ⟨some 89,.mv (.t 88),none⟩,
 ⟨some 90,.mv (.t 0), some (89, true)⟩,
 ⟨some 91,.call .share 83 [.t 90], some (89, true)⟩,
 ⟨some 92,.pick (.t 89) (.t 91) (.c (.bool false)),none⟩,
 ⟨some 93,.mv (.t 92),none⟩,
 ⟨some 94,.mv (.t 0), some (93, true)⟩,
 ⟨some 95,.call .share 84 [.t 94], some (93, true)⟩,
 ⟨some 96,.pick (.t 93) (.t 95) (.c (.bool false)),none⟩,
 ⟨some 97,.mv (.t 96),none⟩,
 ⟨some 98,.mv (.t 0), some (97, true)⟩,
 ⟨some 99,.call .share 78 [.t 98], some (97, true)⟩,
 ⟨some 100,.pick (.t 97) (.t 99) (.c (.bool false)),none⟩,
 ⟨some 101,.mv (.t 100),none⟩,
 ⟨some 102,.mv (.t 0), some (101, true)⟩,
 ⟨some 103,.call .share 74 [.t 102], some (101, true)⟩,
 ⟨some 104,.pick (.t 101) (.t 103) (.c (.bool false)),none⟩,
 ⟨some 105,.mv (.t 104),none⟩,
 ⟨some 106,.mv (.t 0), some (105, true)⟩,
 ⟨some 107,.call .share 68 [.t 106], some (105, true)⟩,
 ⟨some 108,.pick (.t 105) (.t 107) (.c (.bool false)),none⟩,
 ⟨some 109,.mv (.t 108),none⟩,
 ⟨some 110,.mv (.t 0), some (109, true)⟩,
 ⟨some 111,.call .share 67 [.t 110], some (109, true)⟩,
 ⟨some 112,.pick (.t 109) (.t 111) (.c (.bool false)),none⟩,
 ⟨some 113,.mv (.t 112),none⟩,
 ⟨some 114,.mv (.t 0), some (113, true)⟩,
 ⟨some 115,.call .share 73 [.t 114], some (113, true)⟩,
 ⟨some 116,.pick (.t 113) (.t 115) (.c (.bool false)),none⟩,
 ⟨some 117,.mv (.t 116),none⟩,
 ⟨some 118,.mv (.t 0), some (117, true)⟩,
 ⟨some 119,.call .share 72 [.t 118], some (117, true)⟩,
 ⟨some 120,.pick (.t 117) (.t 119) (.c (.bool false)),none⟩,
 ⟨some 121,.mv (.t 120),none⟩,
 ⟨some 122,.mv (.t 0), some (121, true)⟩,
 ⟨some 123,.call .share 71 [.t 122], some (121, true)⟩,
 ⟨some 124,.pick (.t 121) (.t 123) (.c (.bool false)),none⟩,
 ⟨some 125,.mv (.t 124),none⟩,
 ⟨some 126,.mv (.t 0), some (125, true)⟩,
 ⟨some 127,.call .share 82 [.t 126], some (125, true)⟩,
 ⟨some 128,.pick (.t 125) (.t 127) (.c (.bool false)),none⟩,
 ⟨some 129,.mv (.t 128),none⟩,
 ⟨some 130,.mv (.t 0), some (129, true)⟩,
 ⟨some 131,.call .share 85 [.t 130], some (129, true)⟩,
 ⟨some 132,.pick (.t 129) (.t 131) (.c (.bool false)),none⟩,
 ⟨some 133,.mv (.t 132),none⟩,
 ⟨some 134,.mv (.t 0), some (133, true)⟩,
 ⟨some 135,.call .share 80 [.t 134], some (133, true)⟩,
 ⟨some 136,.pick (.t 133) (.t 135) (.c (.bool false)),none⟩,
 ⟨some 137,.mv (.t 136),none⟩,
 ⟨some 138,.mv (.t 0), some (137, true)⟩,
 ⟨some 139,.call .share 76 [.t 138], some (137, true)⟩,
 ⟨some 140,.pick (.t 137) (.t 139) (.c (.bool false)),none⟩,
 ⟨some 141,.mv (.t 140),none⟩,
 ⟨some 142,.mv (.t 0), some (141, true)⟩,
 ⟨some 143,.call .share 70 [.t 142], some (141, true)⟩,
 ⟨some 144,.pick (.t 141) (.t 143) (.c (.bool false)),none⟩,
 ⟨some 145,.mv (.t 144),none⟩,
 ⟨some 146,.mv (.t 0), some (145, true)⟩,
 ⟨some 147,.call .share 69 [.t 146], some (145, true)⟩,
 ⟨some 148,.pick (.t 145) (.t 147) (.c (.bool false)),none⟩,
 ⟨some 149,.mv (.t 148),none⟩,
 ⟨some 150,.mv (.t 0), some (149, true)⟩,
 ⟨some 151,.call .share 77 [.t 150], some (149, true)⟩,
 ⟨some 152,.pick (.t 149) (.t 151) (.c (.bool false)),none⟩,
 ⟨some 153,.mv (.t 152),none⟩,
 ⟨some 154,.mv (.t 0), some (153, true)⟩,
 ⟨some 155,.call .share 66 [.t 154], some (153, true)⟩,
 ⟨some 156,.pick (.t 153) (.t 155) (.c (.bool false)),none⟩,
 ⟨some 157,.mv (.t 156),none⟩,
 ⟨some 158,.mv (.t 0), some (157, true)⟩,
 ⟨some 159,.call .share 81 [.t 158], some (157, true)⟩,
 ⟨some 160,.pick (.t 157) (.t 159) (.c (.bool false)),none⟩,
 ⟨some 2,.mv (.t 160),none⟩]) .ret))))))))))))))))))))))))))))))))))))))))))⟩
def x65 : XFun :=
 ⟨[],(.seq (.region [0, 1] [o0 4 (.mv (.t 0)),
 o0 5 (.nilCheck (.t 4)),
 o0 6 (.fieldA 0 (.t 5)),
 o0 7 (.load none (.t 6)),
 o0 8 (.bin .add (.t 7) (.c (.int .i64 1))),
 o0 9 (.nilCheck (.t 4)),
 o0 10 (.fieldA 0 (.t 9)),
 o2 (.store 1 (.t 10) (.t 8))]) (.region [] [o0 11 (.mv (.t 0)),
 o0 12 (.mv (.t 0)),
 o0 13 (.nilCheck (.t 12)),
 o0 14 (.fieldA 13 (.t 13)),
 o0 15 (.load none (.t 14)),
 o0 16 (.mv (.t 1)),
 o0 17 (.mv (.t 0)),
 o0 18 (.nilCheck (.t 17)),
 o0 19 (.fieldA 0 (.t 18)),
 o0 20 (.load none (.t 19)),
 o0 21 (.build [(.slice none 0 0),(.slice none 0 0),(.int .i64 0)] [(0, 1,(.t 16)),(2, 1,(.t 20))]),
 o0 22 (.buildSlice 3 [(.slice none 0 0),(.slice none 0 0),(.int .i64 0)] 1 [(0, 3,(.t 21))]),
 o0 23 (.append 3 56 (.t 15) (.t 22)),
 o0 24 (.nilCheck (.t 11)),
 o0 25 (.fieldA 13 (.t 24)),
 o2 (.store 1 (.t 25) (.t 23))]))⟩
@[simp] def sameC5z1c (n0 : Nat) (n1 : Nat) : XCode :=
 (.seq (.seq (.region [0, 2, 3, 4, 25] [o0 21 (.mv (.t 4)),o0 22 (.fieldA 0 (.t 3)),o0 23 (.load none (.t 22)),o0 24 (.len (.t 23)),o0 25 (.bin .lss (.t 21) (.t 24))]) (.cond (.t 25) .skip (.exit 2))) (.seq (.block 3 (.region [0, 2, 3, 4] [o0 28 (.fieldA 0 (.t 3)),o0 29 (.load none (.t 28)),o0 30 (.mv (.t 4)),o0 31 (.fieldA 2 (.t 3)),o0 32 (.load none (.t 31)),o0 33 (.call .view n0 [.t 32]),o0 34 (.idxA n1 (.t 29) (.t 30)),o2 (.store n1 (.t 34) (.t 33))])) (.region [0, 2, 3, 4] [o0 26 (.mv (.t 4)),o0 27 (.bin .add (.t 26) (.c (.int .i64 1))),o0 4 (.mv (.t 27))])))
def x25L1 : XCode :=
 sameC5z1c 411 1
@[simp] def sameC5z2c (n0 : Nat) (c1 : XCode) : XCode :=
 (.seq (.seq (.region [0, 2, 11] [o0 5 (.mv (.t 2)),o0 6 (.mv (.t 0)),o0 7 (.nilCheck (.t 6)),o0 8 (.fieldA n0 (.t 7)),o0 9 (.load none (.t 8)),o0 10 (.len (.t 9)),o0 11 (.bin .lss (.t 5) (.t 10))]) (.cond (.t 11) .skip (.exit 0))) (.seq (.block 1 (.seq (.region [0, 2, 3] [o0 14 (.mv (.t 0)),o0 15 (.nilCheck (.t 14)),o0 16 (.fieldA n0 (.t 15)),o0 17 (.load none (.t 16)),o0 18 (.mv (.t 2)),o0 19 (.idxA 3 (.t 17) (.t 18)),o0 20 (.load (some 3) (.t 19)),o0 3 (.alloc [(.slice none 0 0),(.slice none 0 0),(.int .i64 0)]),o2 (.store 3 (.t 3) (.t 20))]) (.seq (.region [0, 2, 3, 4] [o0 4 (.mv (.c (.int .i64 0)))]) (.block 2 (.loop [0, 2, 3, 4] c1))))) (.region [0, 2] [o0 12 (.mv (.t 2)),o0 13 (.bin .add (.t 12) (.c (.int .i64 1))),o0 2 (.mv (.t 13))])))
def x25L2 : XCode :=
 sameC5z2c 1 x25L1
@[simp] def sameC5z3f (c0 : XCode) : XFun :=
 ⟨[],(.seq (.region [0, 2] [o0 2 (.mv (.c (.int .i64 0)))]) (.block 0 (.loop [0, 2] c0)))⟩
def x25 : XFun :=
 sameC5z3f x25L2
def x29L1 : XCode :=
 sameC5z1c 415 1
def x29L2 : XCode :=
 sameC5z2c 2 x29L1
def x29 : XFun :=
 sameC5z3f x29L2
def x33L1 : XCode :=
 sameC5z1c 419 1
def x33L2 : XCode :=
 sameC5z2c 3 x33L1
def x33 : XFun :=
 sameC5z3f x33L2
def x34L1 : XCode :=
 sameC5z1c 420 2
def x34L2 : XCode :=
 sameC5z2c 4 x34L1
def x34 : XFun :=
 sameC5z3f x34L2
def x28L1 : XCode :=
 sameC5z1c 414 5
def x28L2 : XCode :=
 sameC5z2c 5 x28L1
def x28 : XFun :=
 sameC5z3f x28L2
def x24L1 : XCode :=
 sameC5z1c 410 2
def x24L2 : XCode :=
 sameC5z2c 6 x24L1
def x24 : XFun :=
 sameC5z3f x24L2
def x18L1 : XCode :=
 sameC5z1c 404 3
def x18L2 : XCode :=
 sameC5z2c 7 x18L1
def x18 : XFun :=
 sameC5z3f x18L2
def x17L1 : XCode :=
 sameC5z1c 403 2
def x17L2 : XCode :=
 sameC5z2c 8 x17L1
def x17 : XFun :=
 sameC5z3f x17L2
def x23L1 : XCode :=
 sameC5z1c 409 4
def x23L2 : XCode :=
 sameC5z2c 9 x23L1
def x23 : XFun :=
 sameC5z3f x23L2
def x22L1 : XCode :=
 sameC5z1c 408 8
def x22L2 : XCode :=
 sameC5z2c 10 x22L1
def x22 : XFun :=
 sameC5z3f x22L2
def x21L1 : XCode :=
 sameC5z1c 407 7
def x21L2 : XCode :=
 sameC5z2c 11 x21L1
def x21 : XFun :=
 sameC5z3f x21L2
def x32L1 : XCode :=
 sameC5z1c 418 6
def x32L2 : XCode :=
 sameC5z2c 12 x32L1
def x32 : XFun :=
 sameC5z3f x32L2
def x35L1 : XCode :=
 sameC5z1c 421 4
def x35L2 : XCode :=
 sameC5z2c 13 x35L1
def x35 : XFun :=
 sameC5z3f x35L2
def x30L1 : XCode :=
 sameC5z1c 416 6
def x30L2 : XCode :=
 sameC5z2c 14 x30L1
def x30 : XFun :=
 sameC5z3f x30L2
def x26L1 : XCode :=
 sameC5z1c 412 3
def x26L2 : XCode :=
 sameC5z2c 15 x26L1
def x26 : XFun :=
 sameC5z3f x26L2
def x20L1 : XCode :=
 sameC5z1c 406 2
def x20L2 : XCode :=
 sameC5z2c 16 x20L1
def x20 : XFun :=
 sameC5z3f x20L2
def x19L1 : XCode :=
 sameC5z1c 405 3
def x19L2 : XCode :=
 sameC5z2c 17 x19L1
def x19 : XFun :=
 sameC5z3f x19L2
def x27L1 : XCode :=
 sameC5z1c 413 5
def x27L2 : XCode :=
 sameC5z2c 18 x27L1
def x27 : XFun :=
 sameC5z3f x27L2
def x16L1 : XCode :=
 sameC5z1c 402 6
def x16L2 : XCode :=
 sameC5z2c 19 x16L1
def x16 : XFun :=
 sameC5z3f x16L2
def x31L1 : XCode :=
 sameC5z1c 417 2
def x31L2 : XCode :=
 sameC5z2c 20 x31L1
def x31 : XFun :=
 sameC5z3f x31L2
@[simp] def sameC5z4c (n0 : Nat) : XCode :=
 (.seq (.seq (.region [0, 2, 3, 4, 5, 25] [o0 24 (.mv (.t 5)),o0 25 (.bin .lss (.t 24) (.c (.int .i64 40)))]) (.cond (.t 25) .skip (.exit 2))) (.seq (.block 3 (.region [0, 2, 3, 4, 5] [o0 28 (.mv (.t 4)),o0 29 (.fieldA 2 (.t 3)),o0 30 (.load none (.t 29)),o0 31 (.call .view n0 [.t 30]),o0 32 (.buildSlice 1 [(.int .i64 0)] 1 [(0, 1,(.t 31))]),o0 33 (.append 1 8 (.t 28) (.t 32)),o0 4 (.mv (.t 33))])) (.region [0, 2, 3, 4, 5] [o0 26 (.mv (.t 5)),o0 27 (.bin .add (.t 26) (.c (.int .i64 1))),o0 5 (.mv (.t 27))])))
def x45L1 : XCode :=
 sameC5z4c 411
@[simp] def sameC5z5c (n0 : Nat) (c1 : XCode) : XCode :=
 (.seq (.seq (.region [0, 2, 12] [o0 6 (.mv (.t 2)),o0 7 (.mv (.t 0)),o0 8 (.nilCheck (.t 7)),o0 9 (.fieldA n0 (.t 8)),o0 10 (.load none (.t 9)),o0 11 (.len (.t 10)),o0 12 (.bin .lss (.t 6) (.t 11))]) (.cond (.t 12) .skip (.exit 0))) (.seq (.block 1 (.seq (.region [0, 2, 3] [o0 15 (.mv (.t 0)),o0 16 (.nilCheck (.t 15)),o0 17 (.fieldA n0 (.t 16)),o0 18 (.load none (.t 17)),o0 19 (.mv (.t 2)),o0 20 (.idxA 3 (.t 18) (.t 19)),o0 21 (.load (some 3) (.t 20)),o0 3 (.alloc [(.slice none 0 0),(.slice none 0 0),(.int .i64 0)]),o2 (.store 3 (.t 3) (.t 21))]) (.seq (.region [0, 2, 3, 4] [o0 22 (.fieldA 0 (.t 3)),o0 23 (.load none (.t 22)),o0 4 (.mv (.t 23))]) (.seq (.seq (.region [0, 2, 3, 4, 5] [o0 5 (.mv (.c (.int .i64 0)))]) (.block 2 (.loop [0, 2, 3, 4, 5] c1))) (.region [0, 2] [o0 34 (.mv (.t 0)),o0 35 (.nilCheck (.t 34)),o0 36 (.fieldA n0 (.t 35)),o0 37 (.load none (.t 36)),o0 38 (.mv (.t 2)),o0 39 (.mv (.t 4)),o0 40 (.idxA 3 (.t 37) (.t 38)),o0 41 (.fieldA 1 (.t 40)),o2 (.store 1 (.t 41) (.t 39))]))))) (.region [0, 2] [o0 13 (.mv (.t 2)),o0 14 (.bin .add (.t 13) (.c (.int .i64 1))),o0 2 (.mv (.t 14))])))
def x45L2 : XCode :=
 sameC5z5c 1 x45L1
def x45 : XFun :=
 sameC5z3f x45L2
def x49L1 : XCode :=
 sameC5z4c 415
def x49L2 : XCode :=
 sameC5z5c 2 x49L1
def x49 : XFun :=
 sameC5z3f x49L2
def x53L1 : XCode :=
 (.seq (.seq (.region [0, 2, 3, 4, 5, 25] [o0 24 (.mv (.t 5)),
 o0 25 (.bin .lss (.t 24) (.c (.int .i64 40)))]) (.cond (.t 25) .skip (.exit 2))) (.seq (.block 3 (.region [0, 2, 3, 4, 5] [o0 28 (.mv (.t 4)),
 o0 29 (.fieldA 2 (.t 3)),
 o0 30 (.load none (.t 29)),
 o0 31 (.call .view 419 [.t 30]),
 o0 32 (.buildSlice 1 [(.string .empty)] 1 [(0, 1,(.t 31))]),
 o0 33 (.append 1 16 (.t 28) (.t 32)),
 o0 4 (.mv (.t 33))])) (.region [0, 2, 3, 4, 5] [o0 26 (.mv (.t 5)),
 o0 27 (.bin .add (.t 26) (.c (.int .i64 1))),
 o0 5 (.mv (.t 27))])))
def x53L2 : XCode :=
 sameC5z5c 3 x53L1
def x53 : XFun :=
 sameC5z3f x53L2
@[simp] def sameC5z6c (n0 : Nat) : XCode :=
 (.seq (.seq (.region [0, 2, 3, 4, 5, 25] [o0 24 (.mv (.t 5)),o0 25 (.bin .lss (.t 24) (.c (.int .i64 40)))]) (.cond (.t 25) .skip (.exit 2))) (.seq (.block 3 (.region [0, 2, 3, 4, 5] [o0 28 (.mv (.t 4)),o0 29 (.fieldA 2 (.t 3)),o0 30 (.load none (.t 29)),o0 31 (.call .view n0 [.t 30]),o0 32 (.buildSlice 2 [(.int .u8 0),(.int .i64 0)] 1 [(0, 2,(.t 31))]),o0 33 (.append 2 16 (.t 28) (.t 32)),o0 4 (.mv (.t 33))])) (.region [0, 2, 3, 4, 5] [o0 26 (.mv (.t 5)),o0 27 (.bin .add (.t 26) (.c (.int .i64 1))),o0 5 (.mv (.t 27))])))
def x54L1 : XCode :=
 sameC5z6c 420
def x54L2 : XCode :=
 sameC5z5c 4 x54L1
def x54 : XFun :=
 sameC5z3f x54L2
def x48L1 : XCode :=
 (.seq (.seq (.region [0, 2, 3, 4, 5, 25] [o0 24 (.mv (.t 5)),
 o0 25 (.bin .lss (.t 24) (.c (.int .i64 40)))]) (.cond (.t 25) .skip (.exit 2))) (.seq (.block 3 (.region [0, 2, 3, 4, 5] [o0 28 (.mv (.t 4)),
 o0 29 (.fieldA 2 (.t 3)),
 o0 30 (.load none (.t 29)),
 o0 31 (.call .view 414 [.t 30]),
 o0 32 (.buildSlice 5 [(.int .u8 0),(.string .empty),(.slice none 0 0),(.int .i64 0),(.int .i64 0)] 1 [(0, 5,(.t 31))]),
 o0 33 (.append 5 64 (.t 28) (.t 32)),
 o0 4 (.mv (.t 33))])) (.region [0, 2, 3, 4, 5] [o0 26 (.mv (.t 5)),
 o0 27 (.bin .add (.t 26) (.c (.int .i64 1))),
 o0 5 (.mv (.t 27))])))
def x48L2 : XCode :=
 sameC5z5c 5 x48L1
def x48 : XFun :=
 sameC5z3f x48L2
def x44L1 : XCode :=
 sameC5z6c 410
def x44L2 : XCode :=
 sameC5z5c 6 x44L1
def x44 : XFun :=
 sameC5z3f x44L2
def x38L1 : XCode :=
 (.seq (.seq (.region [0, 2, 3, 4, 5, 25] [o0 24 (.mv (.t 5)),
 o0 25 (.bin .lss (.t 24) (.c (.int .i64 40)))]) (.cond (.t 25) .skip (.exit 2))) (.seq (.block 3 (.region [0, 2, 3, 4, 5] [o0 28 (.mv (.t 4)),
 o0 29 (.fieldA 2 (.t 3)),
 o0 30 (.load none (.t 29)),
 o0 31 (.call .view 404 [.t 30]),
 o0 32 (.buildSlice 3 [(.int .u8 0),(.int .i64 0),(.string .empty)] 1 [(0, 3,(.t 31))]),
 o0 33 (.append 3 32 (.t 28) (.t 32)),
 o0 4 (.mv (.t 33))])) (.region [0, 2, 3, 4, 5] [o0 26 (.mv (.t 5)),
 o0 27 (.bin .add (.t 26) (.c (.int .i64 1))),
 o0 5 (.mv (.t 27))])))
def x38L2 : XCode :=
 sameC5z5c 7 x38L1
def x38 : XFun :=
 sameC5z3f x38L2
def x37L1 : XCode :=
 (.seq (.seq (.region [0, 2, 3, 4, 5, 25] [o0 24 (.mv (.t 5)),
 o0 25 (.bin .lss (.t 24) (.c (.int .i64 40)))]) (.cond (.t 25) .skip (.exit 2))) (.seq (.block 3 (.region [0, 2, 3, 4, 5] [o0 28 (.mv (.t 4)),
 o0 29 (.fieldA 2 (.t 3)),
 o0 30 (.load none (.t 29)),
 o0 31 (.call .view 403 [.t 30]),
 o0 32 (.buildSlice 2 [(.bool false),(.int .i64 0)] 1 [(0, 2,(.t 31))]),
 o0 33 (.append 2 16 (.t 28) (.t 32)),
 o0 4 (.mv (.t 33))])) (.region [0, 2, 3, 4, 5] [o0 26 (.mv (.t 5)),
 o0 27 (.bin .add (.t 26) (.c (.int .i64 1))),
 o0 5 (.mv (.t 27))])))
def x37L2 : XCode :=
 sameC5z5c 8 x37L1
def x37 : XFun :=
 sameC5z3f x37L2
def x43L1 : XCode :=
 (.seq (.seq (.region [0, 2, 3, 4, 5, 25] [o0 24 (.mv (.t 5)),
 o0 25 (.bin .lss (.t 24) (.c (.int .i64 40)))]) (.cond (.t 25) .skip (.exit 2))) (.seq (.block 3 (.region [0, 2, 3, 4, 5] [o0 28 (.mv (.t 4)),
 o0 29 (.fieldA 2 (.t 3)),
 o0 30 (.load none (.t 29)),
 o0 31 (.call .view 409 [.t 30]),
 o0 32 (.buildSlice 4 [(.int .i64 0),(.int .i64 0),(.int .i64 0),(.int .i64 0)] 1 [(0, 4,(.t 31))]),
 o0 33 (.append 4 32 (.t 28) (.t 32)),
 o0 4 (.mv (.t 33))])) (.region [0, 2, 3, 4, 5] [o0 26 (.mv (.t 5)),
 o0 27 (.bin .add (.t 26) (.c (.int .i64 1))),
 o0 5 (.mv (.t 27))])))
def x43L2 : XCode :=
 sameC5z5c 9 x43L1
def x43 : XFun :=
 sameC5z3f x43L2
def x42L1 : XCode :=
 (.seq (.seq (.region [0, 2, 3, 4, 5, 25] [o0 24 (.mv (.t 5)),
 o0 25 (.bin .lss (.t 24) (.c (.int .i64 40)))]) (.cond (.t 25) .skip (.exit 2))) (.seq (.block 3 (.region [0, 2, 3, 4, 5] [o0 28 (.mv (.t 4)),
 o0 29 (.fieldA 2 (.t 3)),
 o0 30 (.load none (.t 29)),
 o0 31 (.call .view 408 [.t 30]),
 o0 32 (.buildSlice 8 [(.string .empty),(.int .i64 0),(.int .i64 0),(.slice none 0 0),(.slice none 0 0),(.slice none 0 0),(.slice none 0 0),(.slice none 0 0)] 1 [(0, 8,(.t 31))]),
 o0 33 (.append 8 152 (.t 28) (.t 32)),
 o0 4 (.mv (.t 33))])) (.region [0, 2, 3, 4, 5] [o0 26 (.mv (.t 5)),
 o0 27 (.bin .add (.t 26) (.c (.int .i64 1))),
 o0 5 (.mv (.t 27))])))
def x42L2 : XCode :=
 sameC5z5c 10 x42L1
def x42 : XFun :=
 sameC5z3f x42L2
def x41L1 : XCode :=
 (.seq (.seq (.region [0, 2, 3, 4, 5, 25] [o0 24 (.mv (.t 5)),
 o0 25 (.bin .lss (.t 24) (.c (.int .i64 40)))]) (.cond (.t 25) .skip (.exit 2))) (.seq (.block 3 (.region [0, 2, 3, 4, 5] [o0 28 (.mv (.t 4)),
 o0 29 (.fieldA 2 (.t 3)),
 o0 30 (.load none (.t 29)),
 o0 31 (.call .view 407 [.t 30]),
 o0 32 (.buildSlice 7 [(.int .u8 0),(.int .i64 0),(.string .empty),(.slice none 0 0),(.slice none 0 0),(.slice none 0 0),(.int .i64 0)] 1 [(0, 7,(.t 31))]),
 o0 33 (.append 7 112 (.t 28) (.t 32)),
 o0 4 (.mv (.t 33))])) (.region [0, 2, 3, 4, 5] [o0 26 (.mv (.t 5)),
 o0 27 (.bin .add (.t 26) (.c (.int .i64 1))),
 o0 5 (.mv (.t 27))])))
def x41L2 : XCode :=
 sameC5z5c 11 x41L1
def x41 : XFun :=
 sameC5z3f x41L2
def x52L1 : XCode :=
 (.seq (.seq (.region [0, 2, 3, 4, 5, 25] [o0 24 (.mv (.t 5)),
 o0 25 (.bin .lss (.t 24) (.c (.int .i64 40)))]) (.cond (.t 25) .skip (.exit 2))) (.seq (.block 3 (.region [0, 2, 3, 4, 5] [o0 28 (.mv (.t 4)),
 o0 29 (.fieldA 2 (.t 3)),
 o0 30 (.load none (.t 29)),
 o0 31 (.call .view 418 [.t 30]),
 o0 32 (.buildSlice 6 [(.int .u8 0),(.string .empty),(.slice none 0 0),(.slice none 0 0),(.slice none 0 0),(.int .i64 0)] 1 [(0, 6,(.t 31))]),
 o0 33 (.append 6 104 (.t 28) (.t 32)),
 o0 4 (.mv (.t 33))])) (.region [0, 2, 3, 4, 5] [o0 26 (.mv (.t 5)),
 o0 27 (.bin .add (.t 26) (.c (.int .i64 1))),
 o0 5 (.mv (.t 27))])))
def x52L2 : XCode :=
 sameC5z5c 12 x52L1
def x52 : XFun :=
 sameC5z3f x52L2
def x55L1 : XCode :=
 (.seq (.seq (.region [0, 2, 3, 4, 5, 25] [o0 24 (.mv (.t 5)),
 o0 25 (.bin .lss (.t 24) (.c (.int .i64 40)))]) (.cond (.t 25) .skip (.exit 2))) (.seq (.block 3 (.region [0, 2, 3, 4, 5] [o0 28 (.mv (.t 4)),
 o0 29 (.fieldA 2 (.t 3)),
 o0 30 (.load none (.t 29)),
 o0 31 (.call .view 421 [.t 30]),
 o0 32 (.buildSlice 4 [(.int .u8 0),(.string .empty),(.int .i64 0),(.int .i64 0)] 1 [(0, 4,(.t 31))]),
 o0 33 (.appendK 4 40 (.t 28) (.t 32)),
 o0 4 (.mv (.t 33))])) (.region [0, 2, 3, 4, 5] [o0 26 (.mv (.t 5)),
 o0 27 (.bin .add (.t 26) (.c (.int .i64 1))),
 o0 5 (.mv (.t 27))])))
def x55L2 : XCode :=
 sameC5z5c 13 x55L1
def x55 : XFun :=
 sameC5z3f x55L2
def x50L1 : XCode :=
 (.seq (.seq (.region [0, 2, 3, 4, 5, 25] [o0 24 (.mv (.t 5)),
 o0 25 (.bin .lss (.t 24) (.c (.int .i64 40)))]) (.cond (.t 25) .skip (.exit 2))) (.seq (.block 3 (.region [0, 2, 3, 4, 5] [o0 28 (.mv (.t 4)),
 o0 29 (.fieldA 2 (.t 3)),
 o0 30 (.load none (.t 29)),
 o0 31 (.call .view 416 [.t 30]),
 o0 32 (.buildSlice 6 [(.int .u8 0),(.int .i64 0),(.slice none 0 0),(.int .i64 0),(.int .u8 0),(.int .i64 0)] 1 [(0, 6,(.t 31))]),
 o0 33 (.append 6 64 (.t 28) (.t 32)),
 o0 4 (.mv (.t 33))])) (.region [0, 2, 3, 4, 5] [o0 26 (.mv (.t 5)),
 o0 27 (.bin .add (.t 26) (.c (.int .i64 1))),
 o0 5 (.mv (.t 27))])))
def x50L2 : XCode :=
 sameC5z5c 14 x50L1
def x50 : XFun :=
 sameC5z3f x50L2
def x46L1 : XCode :=
 (.seq (.seq (.region [0, 2, 3, 4, 5, 25] [o0 24 (.mv (.t 5)),
 o0 25 (.bin .lss (.t 24) (.c (.int .i64 40)))]) (.cond (.t 25) .skip (.exit 2))) (.seq (.block 3 (.region [0, 2, 3, 4, 5] [o0 28 (.mv (.t 4)),
 o0 29 (.fieldA 2 (.t 3)),
 o0 30 (.load none (.t 29)),
 o0 31 (.call .view 412 [.t 30]),
 o0 32 (.buildSlice 3 [(.int .i64 0),(.int .u8 0),(.int .i64 0)] 1 [(0, 3,(.t 31))]),
 o0 33 (.append 3 24 (.t 28) (.t 32)),
 o0 4 (.mv (.t 33))])) (.region [0, 2, 3, 4, 5] [o0 26 (.mv (.t 5)),
 o0 27 (.bin .add (.t 26) (.c (.int .i64 1))),
 o0 5 (.mv (.t 27))])))
def x46L2 : XCode :=
 sameC5z5c 15 x46L1
def x46 : XFun :=
 sameC5z3f x46L2
@[simp] def sameC5z7c (n0 : Nat) : XCode :=
 (.seq (.seq (.region [0, 2, 3, 4, 5, 25] [o0 24 (.mv (.t 5)),o0 25 (.bin .lss (.t 24) (.c (.int .i64 40)))]) (.cond (.t 25) .skip (.exit 2))) (.seq (.block 3 (.region [0, 2, 3, 4, 5] [o0 28 (.mv (.t 4)),o0 29 (.fieldA 2 (.t 3)),o0 30 (.load none (.t 29)),o0 31 (.call .view n0 [.t 30]),o0 32 (.buildSlice 2 [(.int .i64 0),(.slice none 0 0)] 1 [(0, 2,(.t 31))]),o0 33 (.append 2 32 (.t 28) (.t 32)),o0 4 (.mv (.t 33))])) (.region [0, 2, 3, 4, 5] [o0 26 (.mv (.t 5)),o0 27 (.bin .add (.t 26) (.c (.int .i64 1))),o0 5 (.mv (.t 27))])))
def x40L1 : XCode :=
 sameC5z7c 406
def x40L2 : XCode :=
 sameC5z5c 16 x40L1
def x40 : XFun :=
 sameC5z3f x40L2
def x39L1 : XCode :=
 (.seq (.seq (.region [0, 2, 3, 4, 5, 25] [o0 24 (.mv (.t 5)),
 o0 25 (.bin .lss (.t 24) (.c (.int .i64 40)))]) (.cond (.t 25) .skip (.exit 2))) (.seq (.block 3 (.region [0, 2, 3, 4, 5] [o0 28 (.mv (.t 4)),
 o0 29 (.fieldA 2 (.t 3)),
 o0 30 (.load none (.t 29)),
 o0 31 (.call .view 405 [.t 30]),
 o0 32 (.buildSlice 3 [(.int .i64 0),(.int .i64 0),(.slice none 0 0)] 1 [(0, 3,(.t 31))]),
 o0 33 (.append 3 40 (.t 28) (.t 32)),
 o0 4 (.mv (.t 33))])) (.region [0, 2, 3, 4, 5] [o0 26 (.mv (.t 5)),
 o0 27 (.bin .add (.t 26) (.c (.int .i64 1))),
 o0 5 (.mv (.t 27))])))
def x39L2 : XCode :=
 sameC5z5c 17 x39L1
def x39 : XFun :=
 sameC5z3f x39L2
def x47L1 : XCode :=
 (.seq (.seq (.region [0, 2, 3, 4, 5, 25] [o0 24 (.mv (.t 5)),
 o0 25 (.bin .lss (.t 24) (.c (.int .i64 40)))]) (.cond (.t 25) .skip (.exit 2))) (.seq (.block 3 (.region [0, 2, 3, 4, 5] [o0 28 (.mv (.t 4)),
 o0 29 (.fieldA 2 (.t 3)),
 o0 30 (.load none (.t 29)),
 o0 31 (.call .view 413 [.t 30]),
 o0 32 (.buildSlice 5 [(.int .u8 0),(.slice none 0 0),(.int .i64 0),(.int .u8 0),(.int .i64 0)] 1 [(0, 5,(.t 31))]),
 o0 33 (.append 5 56 (.t 28) (.t 32)),
 o0 4 (.mv (.t 33))])) (.region [0, 2, 3, 4, 5] [o0 26 (.mv (.t 5)),
 o0 27 (.bin .add (.t 26) (.c (.int .i64 1))),
 o0 5 (.mv (.t 27))])))
def x47L2 : XCode :=
 sameC5z5c 18 x47L1
def x47 : XFun :=
 sameC5z3f x47L2
def x36L1 : XCode :=
 (.seq (.seq (.region [0, 2, 3, 4, 5, 25] [o0 24 (.mv (.t 5)),
 o0 25 (.bin .lss (.t 24) (.c (.int .i64 40)))]) (.cond (.t 25) .skip (.exit 2))) (.seq (.block 3 (.region [0, 2, 3, 4, 5] [o0 28 (.mv (.t 4)),
 o0 29 (.fieldA 2 (.t 3)),
 o0 30 (.load none (.t 29)),
 o0 31 (.call .view 402 [.t 30]),
 o0 32 (.buildSlice 6 [(.slice none 0 0),(.int .u8 0),(.slice none 0 0),(.slice none 0 0),(.slice none 0 0),(.int .i64 0)] 1 [(0, 6,(.t 31))]),
 o0 33 (.append 6 112 (.t 28) (.t 32)),
 o0 4 (.mv (.t 33))])) (.region [0, 2, 3, 4, 5] [o0 26 (.mv (.t 5)),
 o0 27 (.bin .add (.t 26) (.c (.int .i64 1))),
 o0 5 (.mv (.t 27))])))
def x36L2 : XCode :=
 sameC5z5c 19 x36L1
def x36 : XFun :=
 sameC5z3f x36L2
def x51L1 : XCode :=
 sameC5z7c 417
def x51L2 : XCode :=
 sameC5z5c 20 x51L1
def x51 : XFun :=
 sameC5z3f x51L2
@[simp] def sameC5z8c (n0 : Nat) : XCode :=
 (.seq (.seq (.region [0, 3, 4, 5, 34] [o0 30 (.mv (.t 5)),o0 31 (.fieldA 1 (.t 4)),o0 32 (.load none (.t 31)),o0 33 (.len (.t 32)),o0 34 (.bin .lss (.t 30) (.t 33))]) (.cond (.t 34) .skip (.exit 2))) (.seq (.block 3 (.seq (.region [0, 3, 4, 5, 63] [o0 37 (.fieldA 1 (.t 4)),o0 38 (.load none (.t 37)),o0 39 (.mv (.t 5)),o0 40 (.idxA 1 (.t 38) (.t 39)),o0 41 (.load none (.t 40)),o0 42 (.fieldA 2 (.t 4)),o0 43 (.load none (.t 42)),o0 44 (.call .view n0 [(.t 41),(.t 43)]),o0 45 (.un .not (.t 44)),o0 46 (.mv (.t 45)),o1 47 46 false (.mv (.t 5)),o1 48 46 false (.fieldA 0 (.t 4)),o1 49 46 false (.load none (.t 48)),o1 50 46 false (.len (.t 49)),o1 51 46 false (.bin .lss (.t 47) (.t 50)),o1 52 46 false (.mv (.t 51)),o1 53 52 true (.fieldA 0 (.t 4)),o1 54 52 true (.load none (.t 53)),o1 55 52 true (.mv (.t 5)),o1 56 52 true (.idxA 1 (.t 54) (.t 55)),o1 57 52 true (.load none (.t 56)),o1 58 52 true (.fieldA 2 (.t 4)),o1 59 52 true (.load none (.t 58)),o1 60 52 true (.call .view n0 [(.t 57),(.t 59)]),o1 61 52 true (.un .not (.t 60)),o1 62 46 false (.pick (.t 52) (.t 61) (.c (.bool false))),o0 63 (.pick (.t 46) (.c (.bool true)) (.t 62))]) (.cond (.t 63) (.seq (.region [2] [o0 2 (.mv (.c (.bool false)))]) .ret) .skip))) (.region [0, 3, 4, 5] [o0 35 (.mv (.t 5)),o0 36 (.bin .add (.t 35) (.c (.int .i64 1))),o0 5 (.mv (.t 36))])))
def x75L1 : XCode :=
 sameC5z8c 391
@[simp] def sameC5z9c (n0 : Nat) (c1 : XCode) : XCode :=
 (.seq (.seq (.region [0, 3, 12] [o0 6 (.mv (.t 3)),o0 7 (.mv (.t 0)),o0 8 (.nilCheck (.t 7)),o0 9 (.fieldA n0 (.t 8)),o0 10 (.load none (.t 9)),o0 11 (.len (.t 10)),o0 12 (.bin .lss (.t 6) (.t 11))]) (.cond (.t 12) .skip (.exit 0))) (.seq (.block 1 (.seq (.region [0, 3, 4] [o0 15 (.mv (.t 0)),o0 16 (.nilCheck (.t 15)),o0 17 (.fieldA n0 (.t 16)),o0 18 (.load none (.t 17)),o0 19 (.mv (.t 3)),o0 20 (.idxA 3 (.t 18) (.t 19)),o0 21 (.load (some 3) (.t 20)),o0 4 (.alloc [(.slice none 0 0),(.slice none 0 0),(.int .i64 0)]),o2 (.store 3 (.t 4) (.t 21))]) (.seq (.seq (.region [0, 3, 4, 29] [o0 22 (.fieldA 1 (.t 4)),o0 23 (.load none (.t 22)),o0 24 (.len (.t 23)),o0 25 (.fieldA 0 (.t 4)),o0 26 (.load none (.t 25)),o0 27 (.len (.t 26)),o0 28 (.bin .add (.t 27) (.c (.int .i64 40))),o0 29 (.bin .neq (.t 24) (.t 28))]) (.cond (.t 29) (.seq (.region [2] [o0 2 (.mv (.c (.bool false)))]) .ret) .skip)) (.seq (.region [0, 3, 4, 5] [o0 5 (.mv (.c (.int .i64 0)))]) (.block 2 (.loop [0, 3, 4, 5] c1)))))) (.region [0, 3] [o0 13 (.mv (.t 3)),o0 14 (.bin .add (.t 13) (.c (.int .i64 1))),o0 3 (.mv (.t 14))])))
def x75L2 : XCode :=
 sameC5z9c 1 x75L1
@[simp] def sameC5z10f (c0 : XCode) : XFun :=
 ⟨[.tmp 2],(.seq (.region [0] [o0 2 (.mv (.c (.bool false)))]) (.seq (.seq (.region [0, 3] [o0 3 (.mv (.c (.int .i64 0)))]) (.block 0 (.loop [0, 3] c0))) (.seq (.region [2] [o0 2 (.mv (.c (.bool true)))]) .ret)))⟩
def x75 : XFun :=
 sameC5z10f x75L2
def x79L1 : XCode :=
 sameC5z8c 395
def x79L2 : XCode :=
 sameC5z9c 2 x79L1
def x79 : XFun :=
 sameC5z10f x79L2
def x83L1 : XCode :=
 sameC5z8c 399
def x83L2 : XCode :=
 sameC5z9c 3 x83L1
def x83 : XFun :=
 sameC5z10f x83L2
@[simp] def sameC5z11c (n0 : Nat) (n1 : Nat) : XCode :=
 (.seq (.seq (.region [0, 3, 4, 5, 34] [o0 30 (.mv (.t 5)),o0 31 (.fieldA 1 (.t 4)),o0 32 (.load none (.t 31)),o0 33 (.len (.t 32)),o0 34 (.bin .lss (.t 30) (.t 33))]) (.cond (.t 34) .skip (.exit 2))) (.seq (.block 3 (.seq (.region [0, 3, 4, 5, 63] [o0 37 (.fieldA 1 (.t 4)),o0 38 (.load none (.t 37)),o0 39 (.mv (.t 5)),o0 40 (.idxA n0 (.t 38) (.t 39)),o0 41 (.load (some n0) (.t 40)),o0 42 (.fieldA 2 (.t 4)),o0 43 (.load none (.t 42)),o0 44 (.call .view n1 [(.t 41),(.t 43)]),o0 45 (.un .not (.t 44)),o0 46 (.mv (.t 45)),o1 47 46 false (.mv (.t 5)),o1 48 46 false (.fieldA 0 (.t 4)),o1 49 46 false (.load none (.t 48)),o1 50 46 false (.len (.t 49)),o1 51 46 false (.bin .lss (.t 47) (.t 50)),o1 52 46 false (.mv (.t 51)),o1 53 52 true (.fieldA 0 (.t 4)),o1 54 52 true (.load none (.t 53)),o1 55 52 true (.mv (.t 5)),o1 56 52 true (.idxA n0 (.t 54) (.t 55)),o1 57 52 true (.load (some n0) (.t 56)),o1 58 52 true (.fieldA 2 (.t 4)),o1 59 52 true (.load none (.t 58)),o1 60 52 true (.call .view n1 [(.t 57),(.t 59)]),o1 61 52 true (.un .not (.t 60)),o1 62 46 false (.pick (.t 52) (.t 61) (.c (.bool false))),o0 63 (.pick (.t 46) (.c (.bool true)) (.t 62))]) (.cond (.t 63) (.seq (.region [2] [o0 2 (.mv (.c (.bool false)))]) .ret) .skip))) (.region [0, 3, 4, 5] [o0 35 (.mv (.t 5)),o0 36 (.bin .add (.t 35) (.c (.int .i64 1))),o0 5 (.mv (.t 36))])))
def x84L1 : XCode :=
 sameC5z11c 2 400
def x84L2 : XCode :=
 sameC5z9c 4 x84L1
def x84 : XFun :=
 sameC5z10f x84L2
def x78L1 : XCode :=
 sameC5z11c 5 394
def x78L2 : XCode :=
 sameC5z9c 5 x78L1
def x78 : XFun :=
 sameC5z10f x78L2
def x74L1 : XCode :=
 sameC5z11c 2 390
def x74L2 : XCode :=
 sameC5z9c 6 x74L1
def x74 : XFun :=
 sameC5z10f x74L2
def x68L1 : XCode :=
 sameC5z11c 3 384
def x68L2 : XCode :=
 sameC5z9c 7 x68L1
def x68 : XFun :=
 sameC5z10f x68L2
def x67L1 : XCode :=
 sameC5z11c 2 383
def x67L2 : XCode :=
 sameC5z9c 8 x67L1
def x67 : XFun :=
 sameC5z10f x67L2
def x73L1 : XCode :=
 sameC5z11c 4 389
def x73L2 : XCode :=
 sameC5z9c 9 x73L1
def x73 : XFun :=
 sameC5z10f x73L2
def x72L1 : XCode :=
 sameC5z11c 8 388
def x72L2 : XCode :=
 sameC5z9c 10 x72L1
def x72 : XFun :=
 sameC5z10f x72L2
def x71L1 : XCode :=
 sameC5z11c 7 387
def x71L2 : XCode :=
 sameC5z9c 11 x71L1
def x71 : XFun :=
 sameC5z10f x71L2
def x82L1 : XCode :=
 sameC5z11c 6 398
def x82L2 : XCode :=
 sameC5z9c 12 x82L1
def x82 : XFun :=
 sameC5z10f x82L2
def x85L1 : XCode :=
 sameC5z11c 4 401
def x85L2 : XCode :=
 sameC5z9c 13 x85L1
def x85 : XFun :=
 sameC5z10f x85L2
def x80L1 : XCode :=
 sameC5z11c 6 396
def x80L2 : XCode :=
 sameC5z9c 14 x80L1
def x80 : XFun :=
 sameC5z10f x80L2
def x76L1 : XCode :=
 sameC5z11c 3 392
def x76L2 : XCode :=
 sameC5z9c 15 x76L1
def x76 : XFun :=
 sameC5z10f x76L2
def x70L1 : XCode :=
 sameC5z11c 2 386
def x70L2 : XCode :=
 sameC5z9c 16 x70L1
def x70 : XFun :=
 sameC5z10f x70L2
def x69L1 : XCode :=
 sameC5z11c 3 385
def x69L2 : XCode :=
 sameC5z9c 17 x69L1
def x69 : XFun :=
 sameC5z10f x69L2
def x77L1 : XCode :=
 sameC5z11c 5 393
def x77L2 : XCode :=
 sameC5z9c 18 x77L1
def x77 : XFun :=
 sameC5z10f x77L2
def x66L1 : XCode :=
 sameC5z11c 6 382
def x66L2 : XCode :=
 sameC5z9c 19 x66L1
def x66 : XFun :=
 sameC5z10f x66L2
def x81L1 : XCode :=
 sameC5z11c 2 397
def x81L2 : XCode :=
 sameC5z9c 20 x81L1
def x81 : XFun :=
 sameC5z10f x81L2
def x421 : XFun :=
 ⟨[.cell 2 (some 4)],(.seq (.region [0, 2] [o0 2 (.alloc [(.int .u8 0),(.string .empty),(.int .i64 0),(.int .i64 0)])]) (.seq (.region [2] [o0 3 (.mv (.t 0)),
 o0 4 (.call .view 422 [.t 3]),
 o0 5 (.build [(.int .u8 0),(.string .empty),(.int .i64 0),(.int .i64 0)] [(1, 1,(.t 4))]),
 o2 (.store 4 (.t 2) (.t 5))]) .ret))⟩
def x401 : XFun :=
 ⟨[.tmp 4],(.seq (.region [1, 2] [o0 2 (.box 4 (.t 0)),
 o0 4 (.mv (.c (.bool false)))]) (.seq (.region [4] [o0 5 (.fieldA 1 (.t 2)),
 o0 6 (.load none (.t 5)),
 o0 7 (.mv (.t 1)),
 o0 8 (.call .view 422 [.t 7]),
 o0 9 (.bin .eql (.t 6) (.t 8)),
 o0 4 (.mv (.t 9))]) .ret))⟩
def x422 : XFun :=
 ⟨[.tmp 2],(.seq (.region [0] [o0 2 (.mv (.c (.string .empty)))]) (.seq (.region [2] [o0 3 (.mv (.t 0)),
 o0 4 (.call .view 786 [.t 3]),
 o0 5 (.bin .add (.c (.string ⟨#[35]⟩)) (.t 4)),
 o0 2 (.mv (.t 5))]) .ret))⟩
end Go.EX


namespace Go.EX
def code5z : Nat → Option XFun
 | 1 => some x1
 | 15 => some x15
 | 16 => some x16
 | 17 => some x17
 | 18 => some x18
 | 19 => some x19
 | 20 => some x20
 | 21 => some x21
 | 22 => some x22
 | 23 => some x23
 | 24 => some x24
 | 25 => some x25
 | 26 => some x26
 | 27 => some x27
 | 28 => some x28
 | 29 => some x29
 | 30 => some x30
 | 31 => some x31
 | 32 => some x32
 | 33 => some x33
 | 34 => some x34
 | 35 => some x35
 | 36 => some x36
 | 37 => some x37
 | 38 => some x38
 | 39 => some x39
 | 40 => some x40
 | 41 => some x41
 | 42 => some x42
 | 43 => some x43
 | 44 => some x44
 | 45 => some x45
 | 46 => some x46
 | 47 => some x47
 | 48 => some x48
 | 49 => some x49
 | 50 => some x50
 | 51 => some x51
 | 52 => some x52
 | 53 => some x53
 | 54 => some x54
 | 55 => some x55
 | 65 => some x65
 | 66 => some x66
 | 67 => some x67
 | 68 => some x68
 | 69 => some x69
 | 70 => some x70
 | 71 => some x71
 | 72 => some x72
 | 73 => some x73
 | 74 => some x74
 | 75 => some x75
 | 76 => some x76
 | 77 => some x77
 | 78 => some x78
 | 79 => some x79
 | 80 => some x80
 | 81 => some x81
 | 82 => some x82
 | 83 => some x83
 | 84 => some x84
 | 85 => some x85
 | 188 => some x188
 | 189 => some x189
 | 190 => some x190
 | 191 => some x191
 | 192 => some x192
 | 193 => some x193
 | 194 => some x194
 | 195 => some x195
 | 358 => some x358
 | 401 => some x401
 | 421 => some x421
 | 422 => some x422
 | 452 => some x452Z
 | 512 => some x512
 | 513 => some x513
 | 514 => some x514
 | 515 => some x515
 | 516 => some x516
 | 517 => some x517
 | 518 => some x518
 | 519 => some x519
 | 568 => some x568
 | 569 => some x569
 | 570 => some x570
 | 571 => some x571
 | 669 => some x669
 | 672 => some x672
 | 673 => some x673
 | 709 => some x709
 | 723 => some x723
 | 725 => some x725
 | 785 => some x785
 | 786 => some x786
 | 793 => some x793
 | 796 => some x796
 | 798 => some x798
 | _ => none
theorem zby : code5z yieldNo = none := by
 unfold code5z
 split <;> first | (rename_i h; exact absurd h (by decide)) | rfl
end Go.EX


set_option linter.unusedVariables false
set_option linter.unusedSimpArgs false
namespace Go.EX
section
variable {code : Nat → Option XFun} {ext : Calls'}
theorem zs4 (c : LexCode code ext) (x : UInt8) (r : List UInt8) (hx : isLetter x = true) (hq : x.toNat ≠ 34) (n : Int) (hl : (x :: r).length ≤ 1000000) :
  callW code ext 194 [.optr 0 0] (scanM (x :: r) n) = some (.tup [.agg [.imm (.val (.int .u8 1)), strV (bs ((x :: r).takeWhile isWord)), int64 0, int64 n], avb (decide (((x :: r).takeWhile isWord).length ≤ 4096))], scanM ((x :: r).dropWhile isWord) n) := by
 have he := zde (ext := ext) c.c188 (zsy c.c195 c.c569 c.c570) (x :: r) n hl
 have hlen := tw_len isWord (x :: r)
 have hcl := zbx c ((x :: r).takeWhile isWord) (by omega)
 have hd := zcw (ext := ext) c.c569 x
 have hle := zhn (ext := ext) c.c570 x
 rw [hx] at hle
 rw [zbi code ext c.c194]
 have hat := bs_get (x :: r) 0
 rw [show (x :: r)[0]? = some x from rfl] at hat
 have hz := za9 ((x :: r).takeWhile isWord)
 have h34 : ¬ (x.toNat : Int) = 34 := by omega
 have hdec : decide ((((x :: r).takeWhile isWord).length : Int) ≤ 4096) = decide (((x :: r).takeWhile isWord).length ≤ 4096) := by rw [decide_eq_decide]; omega
 rw [← hdec]
 unfold x194 scanM at *
 generalize x194L1 = L at *
 unfold u8V at *
 clear hx hq hl hlen hdec
 generalize ((x :: r).takeWhile isWord).length = tl at *
 generalize bs ((x :: r).takeWhile isWord) = T at *
 generalize bs ((x :: r).dropWhile isWord) = D at *
 generalize bs (x :: r) = B at *
 generalize isDigit x = dg at *
 cases dg <;> simp -implicitDefEqProofs [he, hcl, hd, hle, hat, hz, h34]
theorem word_num (c : LexCode code ext) (x : UInt8) (r : List UInt8) (hx : isLetter x = false) (hx2 : isDigit x = true) (n : Int) (hl : (x :: r).length ≤ 1000000) :
  callW code ext 194 [.optr 0 0] (scanM (x :: r) n) = some (.tup [.agg [.imm (.val (.int .u8 2)), strV (bs []), int64 (numN ((x :: r).takeWhile isWord)), int64 n], avb (numOk ((x :: r).takeWhile isWord))], scanM ((x :: r).dropWhile isWord) n) := by
 have he := zde (ext := ext) c.c188 (zsy c.c195 c.c569 c.c570) (x :: r) n hl
 have hlen := tw_len isWord (x :: r)
 have hp := zlp c ((x :: r).takeWhile isWord) (by omega)
 have hd := zcw (ext := ext) c.c569 x
 have hle := zhn (ext := ext) c.c570 x
 rw [hx] at hle
 rw [hx2] at hd
 have h34 : ¬ (x.toNat : Int) = 34 := by
  intro h
  unfold isDigit at hx2
  simp only [Bool.and_eq_true, decide_eq_true_eq] at hx2
  omega
 have hat := bs_get (x :: r) 0
 rw [show (x :: r)[0]? = some x from rfl] at hat
 have hemp : bs [] = ByteArray.empty := rfl
 rw [zbi code ext c.c194, hemp]
 have hok : ∀ v, Go.Lib.parseIntB 64 ((x :: r).takeWhile isWord) = .ok v → numN ((x :: r).takeWhile isWord) = v ∧ numOk ((x :: r).takeWhile isWord) = decide (bs (Go.Lib.itoa v) = bs ((x :: r).takeWhile isWord)) := by
  intro v hv
  unfold numN numOk
  rw [hv]
  refine ⟨rfl, ?_⟩
  show decide _ = decide _
  rw [decide_eq_decide]
  exact bs_inj.symm
 have hno : (∀ v, Go.Lib.parseIntB 64 ((x :: r).takeWhile isWord) ≠ .ok v) → numOk ((x :: r).takeWhile isWord) = false := by
  intro hv
  unfold numOk
  split
  ·rename_i v h; exact absurd h (hv v)
  ·rfl
 unfold x194 scanM at *
 generalize x194L1 = L at *
 unfold u8V at *
 rcases hp with ⟨v, hv, hp⟩ | ⟨hv, hp⟩
 ·obtain ⟨g1, g2⟩ := hok v hv
  have hf := zfb c (zlq hv)
  rw [g1, g2]
  clear hok hno g1 g2 hv hx hx2 hl hlen
  generalize bs (Go.Lib.itoa v) = F at *
  generalize bs ((x :: r).takeWhile isWord) = T at *
  generalize bs ((x :: r).dropWhile isWord) = D at *
  generalize bs (x :: r) = B at *
  simp -implicitDefEqProofs [he, hp, hd, hle, hat, h34, hf]
 ·rw [hno hv]
  clear hok hno hv hx hx2 hl hlen
  generalize numN ((x :: r).takeWhile isWord) = N at *
  generalize bs ((x :: r).takeWhile isWord) = T at *
  generalize bs ((x :: r).dropWhile isWord) = D at *
  generalize bs (x :: r) = B at *
  simp -implicitDefEqProofs [he, hp, hd, hle, hat, h34]
def signs5 : List (List UInt8) := [[61, 61], [33, 61], [60, 61], [40], [41], [123], [125], [91], [93], [44], [59], [58], [61], [60], [43], [45], [42], [47], [37], [35], [36]]
def signC : List AV := signs5.map fun s => strV (bs s)
theorem zqc (c : LexCode code ext) : ∃ m, callW code ext 571 [] [] = some (.agg signC, m) := by
 refine mem_of ?_
 rw [zbi code ext c.c571]
 unfold signC signs5 bs
 simp -implicitDefEqProofs [x571]
theorem zb8 (c : LexCode code ext) (l p : List UInt8) : callW code ext 723 [strV (bs l), strV (bs p)] [] = some (.tup [strV (bs (if hasPre p l then l.drop p.length else l)), avb (hasPre p l)], []) := by
 have hp := zmk (ext := ext) c.c725 l p
 rw [zbi code ext c.c723]
 have hs1 := za9 l
 have hs2 := za9 p
 have hd := za7 l p.length
 cases hb : hasPre p l with
 | false =>
  rw [hb] at hp
  simp only [Bool.false_eq_true, if_false]
  generalize bs l = L at *
  generalize bs p = Q at *
  simp -implicitDefEqProofs [x723, hp]
 | true =>
  rw [hb] at hp
  have hle : p.length ≤ l.length := by
   unfold hasPre at hb
   have := congrArg List.length (of_decide_eq_true hb)
   rw [List.length_take] at this
   omega
  have hle' : (p.length : Int) ≤ l.length := by omega
  simp only [if_true]
  generalize bs (l.drop p.length) = D at *
  generalize bs l = L at *
  generalize bs p = Q at *
  simp -implicitDefEqProofs [x723, hp, hs1, hs2, hd, hle, hle']
theorem zb9 (c : LexCode code ext) (l p : List UInt8) : callW code ext 796 [strV (bs l), strV (bs p)] [] = some (.tup [strV (bs (if hasPre p l then l.drop p.length else l)), avb (hasPre p l)], []) := by
 have hp := zb8 c l p
 rw [zbi code ext c.c796]
 generalize bs (if hasPre p l then l.drop p.length else l) = D at *
 generalize bs l = L at *
 generalize bs p = Q at *
 simp -implicitDefEqProofs [x796, hp]
def signOf (l : List UInt8) : Option (List UInt8) := signs5.find? fun s => hasPre s l
theorem zqb (c : LexCode code ext) (l : List UInt8) (n : Int) (s0 : St) (hs0 : s0.tidy [0, 2, 70, 71] = ⟨1, [(0, .optr 0 0), (2, .optr 1 0), (70, .agg signC), (71, int64 0)], [.rich [strV (bs l), int64 n], .rich [.imm (.val (.int .u8 0)), strV .empty, int64 0, int64 n]]⟩) :
  ∃ e s', den code ext (.loop [0, 2, 70, 71] x194L1) s0 = some (e, s') ∧ e ≠ .normal ∧
   ((signOf l = none ∧ e = .exit 1 ∧ ∃ x, s' = ⟨1, [(0, .optr 0 0), (2, .optr 1 0), (70, x), (71, int64 21), (72, avb false)], [.rich [strV (bs l), int64 n], .rich [.imm (.val (.int .u8 0)), strV .empty, int64 0, int64 n]]⟩) ∨
    (∃ sg, signOf l = some sg ∧ e = .ret ∧ s' = ⟨1, [(2, .optr 1 0), (3, avb true)], [.rich [strV (bs (l.drop sg.length)), int64 n], .rich [.imm (.val (.int .u8 4)), strV (bs sg), int64 0, int64 n]]⟩)) := by
 have hlen : signs5.length = 21 := rfl
 refine zh9 (fun m s => ∃ i, i + m = 21 ∧ (∀ j, j < i → ∀ sg, signs5[j]? = some sg → hasPre sg l = false) ∧ s.tidy [0, 2, 70, 71] = ⟨1, [(0, .optr 0 0), (2, .optr 1 0), (70, .agg signC), (71, int64 (i : Nat))], [.rich [strV (bs l), int64 n], .rich [.imm (.val (.int .u8 0)), strV .empty, int64 0, int64 n]]⟩) _ ?_ 21 _ ⟨0, by simp, fun j hj => by omega, by simpa using hs0⟩
 rintro m s ⟨i, hi, hno, hst⟩
 rw [hst]
 by_cases hlt : i < 21
 ·have hx := List.getElem?_eq_getElem (l := signs5) (i := i) (by rw [hlen]; exact hlt)
  have hg : signC[i]? = some (strV (bs signs5[i])) := by unfold signC; rw [List.getElem?_map, hx]; rfl
  have hc := zb9 c l signs5[i]
  have hlt' : (i : Int) < 21 := by omega
  have e1 : IntKind.wrap .i64 ((i : Int) + 1) = (i : Int) + 1 := wrapI64 (by omega) (by omega)
  cases hp : hasPre signs5[i] l with
  | false =>
   rw [hp] at hc
   simp only [Bool.false_eq_true, if_false] at hc
   refine ⟨.normal, ⟨1, [(0, .optr 0 0), (2, .optr 1 0), (70, .agg signC), (71, int64 ((i : Int) + 1))], [.rich [strV (bs l), int64 n], .rich [.imm (.val (.int .u8 0)), strV .empty, int64 0, int64 n]]⟩, ?_, .inl ⟨rfl, m - 1, by omega, i + 1, by omega, fun j hj sg hsg => ?_, ?_⟩⟩
   ·generalize signC = SC at *
    generalize bs signs5[i] = S at *
    generalize bs l = B at *
    simp -implicitDefEqProofs [x194L1, hlt, hlt', hg, hc, e1]
   ·by_cases hji : j = i
    ·subst hji
     rw [hx] at hsg
     cases hsg
     exact hp
    ·exact hno j (by omega) sg hsg
   ·have hrefs : AV.refs.refsL signC = [] := rfl
    have hren : ∀ f, AV.ren.renL f signC = signC := fun f => rfl
    generalize signC = SC at *
    simp -implicitDefEqProofs [hrefs, hren]
  | true =>
   rw [hp] at hc
   simp only [if_true] at hc
   have hsg : signOf l = some signs5[i] := by
    unfold signOf
    rw [List.find?_eq_some_iff_getElem]
    refine ⟨hp, i, by rw [hlen]; exact hlt, rfl, fun j hj => ?_⟩
    have := hno j hj _ (List.getElem?_eq_getElem (l := signs5) (i := j) (by rw [hlen]; omega))
    rw [this]
    rfl
   refine ⟨.ret, _, ?_, .inr ⟨by simp, .inr ⟨_, hsg, rfl, rfl⟩⟩⟩
   generalize bs (l.drop signs5[i].length) = D at *
   generalize signC = SC at *
   generalize bs signs5[i] = S at *
   generalize bs l = B at *
   simp -implicitDefEqProofs [x194L1, hlt, hlt', hg, hc]
 ·have : i = 21 := by omega
  subst this
  have hsg : signOf l = none := by
   unfold signOf
   rw [List.find?_eq_none]
   intro s hs
   obtain ⟨j, hj⟩ := List.getElem?_of_mem hs
   have hj2 := (List.getElem?_eq_some_iff.1 hj).1
   rw [hlen] at hj2
   rw [hno j hj2 s hj]
   simp
  refine ⟨.exit 1, ⟨1, [(0, .optr 0 0), (2, .optr 1 0), (70, .agg signC), (71, int64 21), (72, avb false)], [.rich [strV (bs l), int64 n], .rich [.imm (.val (.int .u8 0)), strV .empty, int64 0, int64 n]]⟩, ?_, .inr ⟨by simp, .inl ⟨hsg, rfl, .agg signC, rfl⟩⟩⟩
  generalize signC = SC at *
  generalize bs l = B at *
  simp -implicitDefEqProofs [x194L1]
theorem zs5 (c : LexCode code ext) (x : UInt8) (r : List UInt8) (hx : isLetter x = false) (hx2 : isDigit x = false) (hq : x.toNat ≠ 34) (n : Int) (hl : (x :: r).length ≤ 1000000) :
  (∀ sg, signOf (x :: r) = some sg → callW code ext 194 [.optr 0 0] (scanM (x :: r) n) = some (.tup [.agg [.imm (.val (.int .u8 4)), strV (bs sg), int64 0, int64 n], avb true], scanM ((x :: r).drop sg.length) n)) ∧
  (signOf (x :: r) = none → callW code ext 194 [.optr 0 0] (scanM (x :: r) n) = some (.tup [.agg [.imm (.val (.int .u8 0)), strV .empty, int64 0, int64 n], avb false], scanM (x :: r) n)) := by
 have hd := zcw (ext := ext) c.c569 x
 have hle := zhn (ext := ext) c.c570 x
 rw [hx] at hle
 rw [hx2] at hd
 obtain ⟨ms, hsn⟩ := zqc c
 have h34 : ¬ (x.toNat : Int) = 34 := by omega
 have hat := bs_get (x :: r) 0
 rw [show (x :: r)[0]? = some x from rfl] at hat
 have hpl : signC.all AV.plain1 = true := rfl
 have hrefs : AV.refs.refsL signC = [] := rfl
 have hren : ∀ f, AV.ren.renL f signC = signC := fun f => rfl
 obtain ⟨e, s', l1, _, hor⟩ := zqb c (x :: r) n ⟨1, [(0, .optr 0 0), (2, .optr 1 0), (70, .agg signC), (71, int64 0)], [.rich [strV (bs (x :: r)), int64 n], .rich [.imm (.val (.int .u8 0)), strV .empty, int64 0, int64 n]]⟩ (by generalize signC = SC at *; simp -implicitDefEqProofs [hrefs, hren])
 refine ⟨fun sg hsg => ?_, fun hsg => ?_⟩
 ·rcases hor with ⟨h1, _⟩ | ⟨sg', h1, rfl, rfl⟩
  ·rw [hsg] at h1; cases h1
  ·rw [hsg] at h1
   cases h1
   rw [zbi code ext c.c194]
   unfold x194 scanM u8V at *
   clear hsg hx hx2 hl
   generalize x194L1 = L at *
   generalize bs ((x :: r).drop sg.length) = D at *
   generalize signC = SC at *
   generalize bs sg = S at *
   generalize bs (x :: r) = B at *
   simp -implicitDefEqProofs [l1, hd, hle, hat, h34, hsn, hpl]
 ·rcases hor with ⟨h1, rfl, y, rfl⟩ | ⟨sg', h1, _⟩
  ·rw [zbi code ext c.c194]
   unfold x194 scanM u8V at *
   clear hsg hx hx2 hl h1
   generalize x194L1 = L at *
   generalize signC = SC at *
   generalize bs (x :: r) = B at *
   simp -implicitDefEqProofs [l1, hd, hle, hat, h34, hsn, hpl]
  ·rw [hsg] at h1; cases h1
end
end Go.EX


set_option linter.unusedVariables false
set_option linter.unusedSimpArgs false
namespace Go.EX
structure W5 where
 k : Nat
 s : List UInt8
 n : Int
 line : Nat
def W5.cells (w : W5) : List IV := [.val (.int .u8 w.k), .val (.string (bs w.s)), .val (.int .i64 w.n), .val (.int .i64 (w.line : Nat))]
def rowW (ws : List W5) : List IV := ws.flatMap W5.cells
theorem zoi (ws : List W5) : (rowW ws).length = ws.length * 4 := by
 unfold rowW
 induction ws with
 | nil => rfl
 | cons w ws ih => rw [List.flatMap_cons, List.length_append, ih, List.length_cons]; show 4 + _ = _; omega
theorem zoj (ws : List W5) (w : W5) : rowW (ws ++ [w]) = rowW ws ++ w.cells := by unfold rowW; simp
def wordOf : List UInt8 → Option (Nat × List UInt8 × Int × List UInt8)
 | [] => none
 | x :: r =>
  if x.toNat = 34 then match textL [] r with
   | some (t, q) => if t.length ≤ 4096 then some (3, t, 0, q) else none
   | none => none
  else if isLetter x = true then (if ((x :: r).takeWhile isWord).length ≤ 4096 then some (1, (x :: r).takeWhile isWord, 0, (x :: r).dropWhile isWord) else none)
  else if isDigit x = true then (if numOk ((x :: r).takeWhile isWord) = true then some (2, [], numN ((x :: r).takeWhile isWord), (x :: r).dropWhile isWord) else none)
  else match signOf (x :: r) with
   | some sg => some (4, sg, 0, (x :: r).drop sg.length)
   | none => none
theorem zsz (x : UInt8) (r : List UInt8) : wordOf (x :: r) =
  if x.toNat = 34 then match textL [] r with
   | some (t, q) => if t.length ≤ 4096 then some (3, t, 0, q) else none
   | none => none
  else if isLetter x = true then (if ((x :: r).takeWhile isWord).length ≤ 4096 then some (1, (x :: r).takeWhile isWord, 0, (x :: r).dropWhile isWord) else none)
  else if isDigit x = true then (if numOk ((x :: r).takeWhile isWord) = true then some (2, [], numN ((x :: r).takeWhile isWord), (x :: r).dropWhile isWord) else none)
  else match signOf (x :: r) with
   | some sg => some (4, sg, 0, (x :: r).drop sg.length)
   | none => none := rfl
theorem zri : ∀ (m : Nat) (acc l : List UInt8), l.length = m → ∀ t q, textL acc l = some (t, q) → q.length < l.length := by
 intro m
 induction m using Nat.strongRecOn with
 | _ m ih =>
  intro acc l hm t q h
  have htw := tw_len isPlain l
  cases hs : stepT (l.dropWhile isPlain) with
  | none => rw [zre acc hs] at h; cases h
  | some o =>
   cases o with
   | none =>
    obtain ⟨r, hr⟩ := zqw hs
    rw [zrg acc hs, hr] at h
    rw [hr] at htw
    cases h
    simp at htw ⊢
    omega
   | some c =>
    have hless := zqx hs
    rw [zrj acc hs] at h
    have := ih _ (by omega) _ _ rfl t q h
    omega
theorem zs1 {l : List UInt8} {k : Nat} {s : List UInt8} {N : Int} {q : List UInt8} (h : wordOf l = some (k, s, N, q)) : q.length < l.length := by
 cases l with
 | nil => cases h
 | cons x r =>
  rw [zsz] at h
  have hdw : isWord x = true → ((x :: r).dropWhile isWord).length < (x :: r).length := by
   intro hx
   have := zc6 isWord r
   simp [List.dropWhile, hx]
   omega
  split at h
  ·split at h
   ·rename_i ht
    split at h
    ·cases h
     have := zri _ [] r rfl _ _ ht
     simp; omega
    ·cases h
   ·cases h
  split at h
  ·rename_i hlt
   split at h
   ·cases h; exact hdw (by unfold isWord; rw [hlt]; simp)
   ·cases h
  split at h
  ·rename_i hlt
   split at h
   ·cases h; exact hdw (by unfold isWord; rw [hlt]; simp)
   ·cases h
  split at h
  ·rename_i sg hsg
   cases h
   unfold signOf at hsg
   have hm := List.mem_of_find?_eq_some hsg
   have : ∀ s ∈ signs5, 0 < s.length := by decide
   have := this s hm
   simp
   omega
  ·cases h
theorem zqh : ∀ (m : Nat) (l : List UInt8) (n : Nat), l.length = m → (skipL l n).1.length ≤ l.length ∧ (skipL l n).2 + (skipL l n).1.length ≤ n + l.length := by
 intro m
 induction m using Nat.strongRecOn with
 | _ m ih =>
  intro l n hm
  have htw := tw_len isBlank l
  have hc := zb5 (l.takeWhile isBlank)
  cases hp : hasPre [47, 47] (l.dropWhile isBlank) with
  | false =>
   rw [zqf n hp]
   dsimp only
   omega
  | true =>
   have hless := zkr hp
   have hd := zc6 notEnd (l.dropWhile isBlank)
   rw [zqi n hp]
   have := ih _ (by omega) ((l.dropWhile isBlank).dropWhile notEnd) (n + countNL (l.takeWhile isBlank)) rfl
   omega
def wordsR (l : List UInt8) (n : Nat) : List W5 ⊕ Nat :=
 if l = [] then .inl [] else
 match h : wordOf l with
 | none => .inr n
 | some (k, s, N, q) => match wordsR (skipL q n).1 (skipL q n).2 with
  | .inl ws => .inl (⟨k, s, N, n⟩ :: ws)
  | .inr m => .inr m
termination_by l.length
decreasing_by
 have h1 := zs1 h
 have h2 := (zqh _ q n rfl).1
 omega
def wordsL (l : List UInt8) (n : Nat) : List W5 ⊕ Nat := wordsR (skipL l n).1 (skipL l n).2
theorem ztj (n : Nat) : wordsR [] n = .inl [] := by unfold wordsR; simp
theorem ztg {l : List UInt8} (n : Nat) (hne : l ≠ []) (h : wordOf l = none) : wordsR l n = .inr n := by
 unfold wordsR
 rw [if_neg hne]
 split <;> simp_all
theorem zti {l : List UInt8} (n : Nat) {k : Nat} {s : List UInt8} {N : Int} {q : List UInt8} (h : wordOf l = some (k, s, N, q)) : wordsR l n = match wordsR (skipL q n).1 (skipL q n).2 with
  | .inl ws => .inl (⟨k, s, N, n⟩ :: ws)
  | .inr m => .inr m := by
 have hne : l ≠ [] := by intro he; subst he; cases h
 conv => lhs; unfold wordsR
 rw [if_neg hne]
 split
 ·rename_i h2; rw [h] at h2; cases h2
 ·rename_i k2 s2 N2 q2 h2
  rw [h] at h2
  cases h2
  rfl
section
variable {code : Nat → Option XFun} {ext : Calls'}
theorem zsx (c : LexCode code ext) (x : UInt8) (r : List UInt8) (n : Int) (hl : (x :: r).length ≤ 1000000) :
  (∀ k s N q, wordOf (x :: r) = some (k, s, N, q) → callW code ext 194 [.optr 0 0] (scanM (x :: r) n) = some (.tup [.agg [.imm (.val (.int .u8 (k : Nat))), strV (bs s), int64 N, int64 n], avb true], scanM q n)) ∧
  (wordOf (x :: r) = none → ∃ (k : Int) (s : ByteArray) (N : Int) (l' : List UInt8), callW code ext 194 [.optr 0 0] (scanM (x :: r) n) = some (.tup [.agg [.imm (.val (.int .u8 k)), strV s, int64 N, int64 n], avb false], scanM l' n)) := by
 rw [zsz]
 by_cases h34 : x.toNat = 34
 ·have hx : x = 34 := by
   have : x.toNat = (34 : UInt8).toNat := h34
   exact UInt8.toNat_inj.1 this
  subst hx
  rw [if_pos (show (34 : UInt8).toNat = 34 from rfl)]
  obtain ⟨l', ht, hq⟩ := zs6 c r n (by simp at hl; omega)
  cases htx : textL [] r with
  | none =>
   have hv : textV r = ([], false) := by unfold textV; rw [htx]
   rw [hv] at ht
   exact ⟨fun k s N q h => (by cases h), fun _ => ⟨_, _, _, _, ht⟩⟩
  | some p =>
   obtain ⟨t, q⟩ := p
   have hv : textV r = (t, decide (t.length ≤ 4096)) := by unfold textV; rw [htx]
   rw [hv] at ht
   have := hq t q htx
   subst this
   by_cases h4 : t.length ≤ 4096
   ·simp only [h4, if_true]
    simp only [h4, decide_true] at ht
    exact ⟨fun k s N q h => (by cases h; exact ht), fun h => (by cases h)⟩
   ·simp only [h4, if_false]
    simp only [h4, decide_false] at ht
    exact ⟨fun k s N q h => (by cases h), fun _ => ⟨_, _, _, _, ht⟩⟩
 ·rw [if_neg h34]
  cases hlt : isLetter x with
  | true =>
   rw [if_pos rfl]
   have hw := zs4 c x r hlt h34 n hl
   by_cases h4 : ((x :: r).takeWhile isWord).length ≤ 4096
   ·rw [if_pos h4]
    rw [decide_eq_true h4] at hw
    exact ⟨fun k s N q h => (by cases h; exact hw), fun h => (by cases h)⟩
   ·rw [if_neg h4]
    rw [decide_eq_false h4] at hw
    exact ⟨fun k s N q h => (by cases h), fun _ => ⟨_, _, _, _, hw⟩⟩
  | false =>
   rw [if_neg (by simp)]
   cases hdg : isDigit x with
   | true =>
    rw [if_pos rfl]
    have hw := word_num c x r hlt hdg n hl
    cases hno : numOk ((x :: r).takeWhile isWord) with
    | true =>
     rw [hno] at hw
     rw [if_pos rfl]
     exact ⟨fun k s N q h => (by cases h; exact hw), fun h => (by cases h)⟩
    | false =>
     rw [hno] at hw
     rw [if_neg (by simp)]
     exact ⟨fun k s N q h => (by cases h), fun _ => ⟨_, _, _, _, hw⟩⟩
   | false =>
    rw [if_neg (by simp)]
    obtain ⟨w1, w2⟩ := zs5 c x r hlt hdg h34 n hl
    cases hsg : signOf (x :: r) with
    | some sg =>
     exact ⟨fun k s N q h => (by cases h; exact w1 sg hsg), fun h => (by cases h)⟩
    | none =>
     exact ⟨fun k s N q h => (by cases h), fun _ => ⟨_, _, _, _, w2 hsg⟩⟩
end
end Go.EX


set_option linter.unusedVariables false
set_option linter.unusedSimpArgs false
namespace Go.EX
section
variable {code : Nat → Option XFun} {ext : Calls'}
def lwV (ws : List W5) : AV := if ws.length = 0 then nilS else .osl 1 0 4 ws.length none
def lwM (ws : List W5) : Mem := if ws.length = 0 then [] else [.flat (rowW ws) false]
def comb5 (ws : List W5) : List W5 ⊕ Nat → List W5 ⊕ Nat
 | .inl us => .inl (ws ++ us)
 | .inr m => .inr m
theorem bs_ne (x : UInt8) (r : List UInt8) : ¬ bs (x :: r) = ByteArray.empty := by
 intro h
 have : bs (x :: r) = bs [] := h
 rw [bs_inj] at this
 cases this
theorem skip5 (c : LexCode code ext) (l : List UInt8) (n : Nat) (hl : l.length ≤ 1000000) (hb : n + l.length ≤ 1000000000) : callW code ext 189 [.optr 0 0] (scanM l (n : Nat)) = some (.tup [], scanM (skipL l n).1 ((skipL l n).2 : Nat)) :=
 zqn (ext := ext) c.c189 c.c188 c.c190 c.c191 c.c798 c.c725 l n hl hb
theorem ztp (c : LexCode code ext) (ws : List W5) (hws : ws.length ≤ 1000000) (x : UInt8) (r : List UInt8) (n : Nat) (hl : (x :: r).length ≤ 1000000) (hb : n + (x :: r).length ≤ 1000000000) :
  (∀ k s N q, wordOf (x :: r) = some (k, s, N, q) → ∃ s', den code ext x568L1 ⟨0, [(5, .optr 0 0), (6, lwV ws)], .rich [strV (bs (x :: r)), int64 (n : Nat)] :: lwM ws⟩ = some (.normal, s') ∧
   s'.tidy [5, 6] = ⟨0, [(5, .optr 0 0), (6, lwV (ws ++ [⟨k, s, N, n⟩]))], .rich [strV (bs (skipL q n).1), int64 ((skipL q n).2 : Nat)] :: lwM (ws ++ [⟨k, s, N, n⟩])⟩) ∧
  (wordOf (x :: r) = none → ∃ l' J, den code ext x568L1 ⟨0, [(5, .optr 0 0), (6, lwV ws)], .rich [strV (bs (x :: r)), int64 (n : Nat)] :: lwM ws⟩ = some (.ret, ⟨0, [(2, nilS), (3, int64 (n : Nat)), (4, int64 4)], .rich [strV (bs l'), int64 (n : Nat)] :: J⟩)) := by
 obtain ⟨w1, w2⟩ := zsx c x r (n : Nat) hl
 have hne := bs_ne x r
 have hrl := zoi ws
 constructor
 ·intro k s N q hw
  have hq := zs1 hw
  have h1 := w1 k s N q hw
  have h2 := skip5 c q n (by omega) (by omega)
  have hlen : (ws ++ [(⟨k, s, N, n⟩ : W5)]).length = ws.length + 1 := by simp
  have hrow : rowW (ws ++ [(⟨k, s, N, n⟩ : W5)]) = rowW ws ++ [.val (.int .u8 (k : Nat)), .val (.string (bs s)), .val (.int .i64 N), .val (.int .i64 (n : Nat))] := zoj ws _
  unfold lwV lwM
  rw [hlen, hrow]
  unfold scanM at h1 h2
  clear w1 w2 hw hl hb hq hlen hrow
  generalize bs (skipL q n).1 = R2 at *
  generalize (skipL q n).2 = n2 at *
  generalize bs q = Q at *
  generalize bs s = T at *
  generalize bs (x :: r) = B at *
  by_cases h0 : ws.length = 0
  ·have hw0 : rowW ws = [] := by
    have : ws = [] := List.eq_nil_of_length_eq_zero h0
    subst this; rfl
   rw [if_pos h0, if_pos h0, if_neg (by omega), if_neg (by omega), hw0, h0]
   refine ⟨⟨0, [(5, .optr 0 0), (6, .osl 3 0 4 1 none)], [.rich [strV R2, int64 (n2 : Nat)], .rich [.imm (.val (.int .u8 (k : Nat))), strV T, int64 N, int64 (n : Nat)], .flat [.val (.int .u8 (k : Nat)), .val (.string T), .val (.int .i64 N), .val (.int .i64 (n : Nat))] false, .flat [.val (.int .u8 (k : Nat)), .val (.string T), .val (.int .i64 N), .val (.int .i64 (n : Nat))] false]⟩, ?_, by simp -implicitDefEqProofs⟩
   simp -implicitDefEqProofs [x568L1, h1, h2, hne, exAppendX, exAppend, elems]
  ·have hcut : cut (rowW ws) 0 (ws.length * 4) = some (rowW ws) := zca _ hrl
   have hle : (ws.length + 1) * 40 ≤ 140737488355328 := by omega
   rw [if_neg h0, if_neg h0, if_neg (by omega), if_neg (by omega)]
   generalize rowW ws = RW at *
   generalize ws.length = wl at *
   refine ⟨⟨0, [(5, .optr 0 0), (6, .osl 1 0 4 (wl + 1) none)], [.rich [strV R2, int64 (n2 : Nat)], .flat (RW ++ [.val (.int .u8 (k : Nat)), .val (.string T), .val (.int .i64 N), .val (.int .i64 (n : Nat))]) false, .rich [.imm (.val (.int .u8 (k : Nat))), strV T, int64 N, int64 (n : Nat)], .flat [.val (.int .u8 (k : Nat)), .val (.string T), .val (.int .i64 N), .val (.int .i64 (n : Nat))] false]⟩, ?_, by simp -implicitDefEqProofs⟩
   simp -implicitDefEqProofs [x568L1, h1, h2, hne, exAppendX, exAppend, elems, hcut, hle]
 ·intro hw
  obtain ⟨k, s, N, l', h1⟩ := w2 hw
  unfold scanM at h1
  clear w1 w2 hw hl hb
  by_cases h0 : ws.length = 0
  ·refine ⟨l', [.rich [.imm (.val (.int .u8 k)), strV s, int64 N, int64 (n : Nat)]], ?_⟩
   unfold lwV lwM
   rw [if_pos h0, if_pos h0]
   generalize bs l' = L2 at *
   generalize bs (x :: r) = B at *
   simp -implicitDefEqProofs [x568L1, h1, hne]
  ·refine ⟨l', [.flat (rowW ws) false, .rich [.imm (.val (.int .u8 k)), strV s, int64 N, int64 (n : Nat)]], ?_⟩
   unfold lwV lwM
   rw [if_neg h0, if_neg h0]
   generalize bs l' = L2 at *
   generalize bs (x :: r) = B at *
   generalize rowW ws = RW at *
   simp -implicitDefEqProofs [x568L1, h1, hne]
theorem ztm (c : LexCode code ext) (l0 : List UInt8) (n0 : Nat) (hl : l0.length ≤ 1000000) (hb : n0 + l0.length ≤ 1000000000) :
  ∃ e s', den code ext (.loop [5, 6] x568L1) ⟨0, [(5, .optr 0 0), (6, nilS)], [.rich [strV (bs l0), int64 (n0 : Nat)]]⟩ = some (e, s') ∧ e ≠ .normal ∧
   ((∃ ws, wordsR l0 n0 = .inl ws ∧ e = .exit 0 ∧ ∃ n, s' = ⟨0, [(5, .optr 0 0), (6, lwV ws), (21, avb false)], .rich [strV .empty, int64 (n : Nat)] :: lwM ws⟩) ∨
    (∃ m, wordsR l0 n0 = .inr m ∧ e = .ret ∧ ∃ l' J, s' = ⟨0, [(2, nilS), (3, int64 (m : Nat)), (4, int64 4)], .rich [strV (bs l'), int64 (m : Nat)] :: J⟩)) := by
 refine zh9 (fun m s => ∃ l n ws, l.length = m ∧ ws.length + l.length ≤ l0.length ∧ n + l.length ≤ n0 + l0.length ∧ comb5 ws (wordsR l n) = wordsR l0 n0 ∧ s.tidy [5, 6] = ⟨0, [(5, .optr 0 0), (6, lwV ws)], .rich [strV (bs l), int64 (n : Nat)] :: lwM ws⟩) _ ?_ l0.length _
  ⟨l0, n0, [], rfl, by simp, by simp, by cases wordsR l0 n0 <;> rfl, by unfold lwV lwM; simp -implicitDefEqProofs⟩
 rintro m s ⟨l, n, ws, hm, h1, h2, hcb, hst⟩
 rw [hst]
 cases l with
 | nil =>
  rw [ztj] at hcb
  refine ⟨.exit 0, _, ?_, .inr ⟨by simp, .inl ⟨ws, ?_, rfl, n, rfl⟩⟩⟩
  ·have he : bs [] = ByteArray.empty := rfl
   rw [he]
   unfold lwV lwM
   by_cases h0 : ws.length = 0
   ·rw [if_pos h0, if_pos h0]
    simp -implicitDefEqProofs [x568L1]
   ·rw [if_neg h0, if_neg h0]
    generalize rowW ws = RW at *
    simp -implicitDefEqProofs [x568L1]
  ·rw [← hcb]
   simp [comb5]
 | cons x r =>
  obtain ⟨r1, r2⟩ := ztp c ws (by omega) x r n (by omega) (by omega)
  cases hw : wordOf (x :: r) with
  | none =>
   obtain ⟨l', J, g1⟩ := r2 hw
   rw [ztg n (by simp) hw] at hcb
   exact ⟨.ret, _, g1, .inr ⟨by simp, .inr ⟨n, hcb.symm, rfl, l', J, rfl⟩⟩⟩
  | some p =>
   obtain ⟨k, sx, N, q⟩ := p
   obtain ⟨s', g1, g2⟩ := r1 k sx N q hw
   have hq := zs1 hw
   have hsk := zqh _ q n rfl
   refine ⟨.normal, s', g1, .inl ⟨rfl, _, by omega, _, _, _, rfl, ?_, ?_, ?_, g2⟩⟩
   ·simp only [List.length_append, List.length_singleton]; omega
   ·omega
   ·rw [← hcb, zti n hw]
    cases wordsR (skipL q n).1 (skipL q n).2 with
    | inl us => simp [comb5]
    | inr m => rfl
theorem zs9 (c : LexCode code ext) (l : List UInt8) (hl : l.length ≤ 1000000) :
  callW code ext 568 [strV (bs l)] [] =
   if 65536 < l.length then some (.tup [nilS, int64 0, int64 3], [])
   else match wordsL l 0 with
    | .inl ws => some (.tup [if ws.length = 0 then nilS else .osl 0 0 4 ws.length none, int64 0, int64 0], lwM ws)
    | .inr m => some (.tup [nilS, int64 (m : Nat), int64 4], []) := by
 rw [zbi code ext c.c568]
 have hz := za9 l
 by_cases hbig : 65536 < l.length
 ·rw [if_pos hbig]
  have hbig' : (65536 : Int) < l.length := by omega
  generalize bs l = B at *
  simp -implicitDefEqProofs [x568, hz, hbig, hbig']
 ·rw [if_neg hbig]
  have hbig' : ¬ (65536 : Int) < l.length := by omega
  have hsk : callW code ext 189 [.optr 0 0] (scanM l 0) = some (.tup [], scanM (skipL l 0).1 ((skipL l 0).2 : Nat)) := skip5 c l 0 hl (by omega)
  have hlen := zqh _ l 0 rfl
  obtain ⟨e, s', l1, _, hor⟩ := ztm c (skipL l 0).1 (skipL l 0).2 (by omega) (by omega)
  unfold wordsL
  unfold x568 scanM at *
  generalize x568L1 = L at *
  rcases hor with ⟨ws, h1, rfl, n, rfl⟩ | ⟨m, h1, rfl, l', J, rfl⟩
  ·rw [h1]
   dsimp only
   unfold lwV lwM at *
   clear h1 hlen hl
   generalize bs (skipL l 0).1 = R at *
   generalize (skipL l 0).2 = q at *
   generalize bs l = B at *
   by_cases h0 : ws.length = 0
   ·rw [if_pos h0] at l1 ⊢
    rw [if_pos h0] at l1 ⊢
    simp -implicitDefEqProofs [l1, hz, hbig, hbig', hsk]
   ·rw [if_neg h0] at l1 ⊢
    rw [if_neg h0] at l1 ⊢
    generalize rowW ws = RW at *
    simp -implicitDefEqProofs [l1, hz, hbig, hbig', hsk]
  ·rw [h1]
   dsimp only
   clear h1 hlen hl
   generalize bs (skipL l 0).1 = R at *
   generalize (skipL l 0).2 = q at *
   generalize bs l = B at *
   generalize bs l' = B2 at *
   simp -implicitDefEqProofs [l1, hz, hbig, hbig', hsk]
end
end Go.EX


set_option linter.unusedVariables false
set_option linter.unusedSimpArgs false
namespace Go.EX
theorem zr8 (p : UInt8 → Bool) (l : List UInt8) : l.takeWhile p ++ l.dropWhile p = l := List.takeWhile_append_dropWhile
theorem zb4 (a b : List UInt8) : countNL (a ++ b) = countNL a + countNL b := List.countP_append
theorem zb6 {l : List UInt8} (h : ∀ x ∈ l, x.toNat ≠ 10) : countNL l = 0 := by
 unfold countNL
 rw [List.countP_eq_zero]
 intro x hx
 simpa using h x hx
theorem zmm {p l : List UInt8} (h : hasPre p l = true) : p.length ≤ l.length := by
 unfold hasPre at h
 have := congrArg List.length (of_decide_eq_true h)
 rw [List.length_take] at this
 omega
theorem zqe : ∀ (m : Nat) (l : List UInt8) (n : Nat), l.length = m → (skipL l n).2 + countNL (skipL l n).1 = n + countNL l := by
 intro m
 induction m using Nat.strongRecOn with
 | _ m ih =>
  intro l n hm
  have hs := congrArg countNL (zr8 isBlank l)
  rw [zb4] at hs
  cases hp : hasPre [47, 47] (l.dropWhile isBlank) with
  | false => rw [zqf _ hp]; dsimp only; omega
  | true =>
   have hs2 := congrArg countNL (zr8 notEnd (l.dropWhile isBlank))
   rw [zb4] at hs2
   have h0 : countNL ((l.dropWhile isBlank).takeWhile notEnd) = 0 := zb6 fun x hx => by
    have := tw_all notEnd _ x hx
    unfold notEnd at this
    simpa using this
   rw [zqi _ hp, ih _ (by have := zkr hp; omega) _ _ rfl]
   omega
theorem zrf : ∀ (m : Nat) (acc l : List UInt8), l.length = m → ∀ t q, textL acc l = some (t, q) → countNL q = countNL l := by
 intro m
 induction m using Nat.strongRecOn with
 | _ m ih =>
  intro acc l hm t q h
  have hs2 := congrArg countNL (zr8 isPlain l)
  rw [zb4] at hs2
  have h0 : countNL (l.takeWhile isPlain) = 0 := zb6 fun x hx => by
   have := tw_all isPlain _ x hx
   unfold isPlain at this
   simp only [Bool.and_eq_true, Bool.not_eq_true', decide_eq_false_iff_not] at this
   exact this.2
  cases hs : stepT (l.dropWhile isPlain) with
  | none => rw [zre acc hs] at h; cases h
  | some o =>
   cases o with
   | none =>
    obtain ⟨r, hr⟩ := zqw hs
    rw [zrg acc hs, hr] at h
    rw [hr] at hs2
    cases h
    have : countNL (34 :: r) = countNL r := by unfold countNL; simp
    rw [List.drop_one, List.tail_cons]
    omega
   | some c =>
    obtain ⟨d, r, hr, hd⟩ := zqz hs
    have hless := zqx hs
    rw [zrj acc hs] at h
    have h3 := ih _ (by omega) _ _ rfl t q h
    rw [hr] at h3 hs2
    have : countNL (92 :: d :: r) = countNL r := by
     unfold countNL
     rcases hd with ⟨rfl, _⟩ | ⟨rfl, _⟩ | ⟨rfl, _⟩ <;> simp
    have e : List.drop 2 (92 :: d :: r) = r := rfl
    rw [e] at h3
    omega
theorem zs3 {l : List UInt8} : countNL (l.dropWhile isWord) = countNL l := by
 have hs2 := congrArg countNL (zr8 isWord l)
 rw [zb4] at hs2
 have h0 : countNL (l.takeWhile isWord) = 0 := zb6 fun x hx => by
  have := tw_all isWord _ x hx
  intro h10
  unfold isWord isDigit isLetter at this
  simp only [h10, Bool.or_eq_true, Bool.and_eq_true, decide_eq_true_eq] at this
  omega
 omega
theorem zs0 {l : List UInt8} {k : Nat} {s : List UInt8} {N : Int} {q : List UInt8} (h : wordOf l = some (k, s, N, q)) : countNL q = countNL l := by
 cases l with
 | nil => cases h
 | cons x r =>
  rw [zsz] at h
  split at h
  ·rename_i h34
   split at h
   ·rename_i ht
    split at h
    ·cases h
     rw [zrf _ [] r rfl _ _ ht]
     unfold countNL
     simp [h34]
    ·cases h
   ·cases h
  split at h
  ·split at h
   ·cases h; exact zs3
   ·cases h
  split at h
  ·split at h
   ·cases h; exact zs3
   ·cases h
  cases hsg : signOf (x :: r) with
  | none => rw [hsg] at h; cases h
  | some sg =>
   rw [hsg] at h
   simp only [Option.some.injEq, Prod.mk.injEq] at h
   obtain ⟨_, _, _, rfl⟩ := h
   unfold signOf at hsg
   have hm : sg ∈ signs5 := List.mem_of_find?_eq_some hsg
   have hpre : hasPre sg (x :: r) = true := List.find?_some (p := fun s => hasPre s (x :: r)) hsg
   have hall : ∀ s ∈ signs5, countNL s = 0 := by decide
   unfold hasPre at hpre
   have ht := of_decide_eq_true hpre
   have hs2 := congrArg countNL (List.take_append_drop sg.length (x :: r))
   rw [zb4, ht, hall sg hm] at hs2
   omega
end Go.EX


set_option linter.unusedVariables false
set_option linter.unusedSimpArgs false
namespace Go.EX
def t5 : Ty W5 := ⟨4, true, W5.cells, fun _ => True, fun _ => rfl⟩
theorem zoh (ws : List W5) : rowW ws = t5.row ws := rfl
theorem zog {ws : List W5} {i : Nat} {w : W5} (h : ws[i]? = some w) : cut (rowW ws) (i * 4) 4 = some w.cells := ze8 (t := t5) h
section
variable {code : Nat → Option XFun} {ext : Calls'}
def vW (ws : List W5) : AV := if ws.length = 0 then nilS else .imm (.slice (rowW ws) 0 ws.length none)
theorem zpj (h358 : code 358 = some x358) (ws : List W5) (hl : ws.length ≤ 1000000000) : callW code ext 358 [vW ws, vW ws] [] = some (avb true, []) := by
 rw [zbi code ext h358]
 by_cases h0 : ws.length = 0
 ·unfold vW
  rw [if_pos h0]
  have L : den code ext (.loop [0, 1, 5] x358L1) ⟨0, [(0, nilS), (1, nilS), (5, int64 0)], []⟩ = some (.exit 0, ⟨0, [(0, nilS), (1, nilS), (5, int64 0), (14, avb false)], []⟩) := by
   rw [zcp]
   have : den code ext x358L1 (St.tidy ⟨0, [(0, nilS), (1, nilS), (5, int64 0)], []⟩ [0, 1, 5]) = some (.exit 0, ⟨0, [(0, nilS), (1, nilS), (5, int64 0), (14, avb false)], []⟩) := by simp -implicitDefEqProofs [x358L1]
   rw [this]
   rfl
  unfold x358
  unfold nilS at *
  generalize x358L1 = LL at *
  simp -implicitDefEqProofs [L]
 ·unfold vW
  rw [if_neg h0]
  have L : ∃ e s', den code ext (.loop [0, 1, 5] x358L1) ⟨0, [(0, .imm (.slice (rowW ws) 0 ws.length none)), (1, .imm (.slice (rowW ws) 0 ws.length none)), (5, int64 0)], []⟩ = some (e, s') ∧ e ≠ .normal ∧
    (e = .exit 0 ∧ s' = ⟨0, [(0, .imm (.slice (rowW ws) 0 ws.length none)), (1, .imm (.slice (rowW ws) 0 ws.length none)), (5, int64 (ws.length : Nat)), (14, avb false)], []⟩) := by
   refine zh9 (fun m s => ∃ i, i + m = ws.length ∧ s = ⟨0, [(0, .imm (.slice (rowW ws) 0 ws.length none)), (1, .imm (.slice (rowW ws) 0 ws.length none)), (5, int64 (i : Nat))], []⟩) _ ?_ ws.length _ ⟨0, by simp, rfl⟩
   rintro m s ⟨i, hi, rfl⟩
   by_cases hlt : i < ws.length
   ·have hx := List.getElem?_eq_getElem hlt
    have hcut := zog hx
    unfold W5.cells at hcut
    have e1 : IntKind.wrap .i64 ((i : Int) + 1) = ((i + 1 : Nat) : Int) := by rw [wrapI64 (by omega) (by omega)]; omega
    clear hx
    generalize ws[i] = w at *
    have hTT : (bs w.s == bs w.s) = true := (beq_self_eq_true w.s.toArray : (w.s.toArray == w.s.toArray) = true)
    refine ⟨.normal, ⟨0, [(0, .imm (.slice (rowW ws) 0 ws.length none)), (1, .imm (.slice (rowW ws) 0 ws.length none)), (5, int64 (i + 1 : Nat))], []⟩, ?_, .inl ⟨rfl, m - 1, by omega, i + 1, by omega, rfl⟩⟩
    generalize rowW ws = RW at *
    generalize ws.length = wl at *
    generalize i + 1 = i1 at *
    generalize bs w.s = T at *
    generalize (w.line : Int) = wn at *
    generalize (w.k : Int) = wk at *
    simp -implicitDefEqProofs [x358L1, hlt, hcut, e1, hTT]
   ·have hil : i = ws.length := by omega
    subst hil
    refine ⟨.exit 0, _, ?_, .inr ⟨by simp, rfl, rfl⟩⟩
    generalize rowW ws = RW at *
    generalize ws.length = wl at *
    simp -implicitDefEqProofs [x358L1]
  obtain ⟨e, s', l1, _, rfl, rfl⟩ := L
  unfold x358
  generalize x358L1 = LL at *
  generalize rowW ws = RW at *
  generalize ws.length = wl at *
  simp -implicitDefEqProofs [l1]
end
end Go.EX


set_option linter.unusedVariables false
set_option linter.unusedSimpArgs false
namespace Go.EX
theorem zth : ∀ (m : Nat) (l : List UInt8) (n : Nat), l.length = m →
  (∀ ws, wordsR l n = .inl ws → ws.length ≤ l.length ∧ ∀ w ∈ ws, w.line ≤ n + countNL l) ∧ (∀ e, wordsR l n = .inr e → e ≤ n + countNL l) := by
 intro m
 induction m using Nat.strongRecOn with
 | _ m ih =>
  intro l n hm
  by_cases hne : l = []
  ·subst hne
   rw [ztj]
   refine ⟨fun ws h => ?_, fun e h => by cases h⟩
   cases h
   exact ⟨Nat.zero_le _, fun w hw => by cases hw⟩
  ·cases hw : wordOf l with
   | none =>
    rw [ztg _ hne hw]
    refine ⟨fun ws h => (by cases h), fun e h => ?_⟩
    cases h
    omega
   | some p =>
    obtain ⟨k, s, N, q⟩ := p
    have hq := zs1 hw
    have hc := zs0 hw
    have hsl := zqh _ q n rfl
    have hsc := zqe _ q n rfl
    obtain ⟨h1, h2⟩ := ih (skipL q n).1.length (by omega) (skipL q n).1 (skipL q n).2 rfl
    rw [zti _ hw]
    cases hr : wordsR (skipL q n).1 (skipL q n).2 with
    | inl us =>
     obtain ⟨g1, g2⟩ := h1 us hr
     refine ⟨fun ws h => ?_, fun e h => by cases h⟩
     cases h
     refine ⟨by simp only [List.length_cons]; omega, fun w hw' => ?_⟩
     rcases List.mem_cons.1 hw' with rfl | h
     ·show n ≤ _; omega
     ·have := g2 w h; omega
    | inr e' =>
     have g := h2 e' hr
     refine ⟨fun ws h => (by cases h), fun e h => ?_⟩
     cases h
     omega
theorem ztb (l : List UInt8) (n : Nat) :
  (∀ ws, wordsL l n = .inl ws → ws.length ≤ l.length ∧ ∀ w ∈ ws, w.line ≤ n + countNL l) ∧ (∀ e, wordsL l n = .inr e → e ≤ n + countNL l) := by
 have hsc := zqe _ l n rfl
 have hsl := zqh _ l n rfl
 obtain ⟨h1, h2⟩ := zth _ (skipL l n).1 (skipL l n).2 rfl
 unfold wordsL
 refine ⟨fun ws h => ?_, fun e h => ?_⟩
 ·obtain ⟨g1, g2⟩ := h1 ws h
  exact ⟨by omega, fun w hw => by have := g2 w hw; omega⟩
 ·have := h2 e h
  omega
section
variable {code : Nat → Option XFun} {ext : Calls'}
end
end Go.EX


set_option linter.unusedVariables false
set_option linter.unusedSimpArgs false
namespace Go.EX
section
variable {code : Nat → Option XFun} {ext : Calls'}
structure JoinCode (code : Nat → Option XFun) (ext : Calls') : Prop where
 l : LexCode code ext
 c450 : code 450 = some x450
 c358 : code 358 = some x358
 al : callW code ext 453 [] [] = some (avb true, [])
theorem ztn (c : LexCode code ext) (l : List UInt8) (hl : l.length ≤ 65536) (h : wordsL l 0 = .inl []) : callW code ext 568 [strV (bs l)] [] = some (.tup [nilS, int64 0, int64 0], []) := by
 rw [zs9 c l (by omega), if_neg (by omega), h]
 rfl
theorem ztq (c : LexCode code ext) (l : List UInt8) (hl : l.length ≤ 65536) {ws : List W5} (h : wordsL l 0 = .inl ws) (h0 : ws.length ≠ 0) :
  callW code ext 568 [strV (bs l)] [] = some (.tup [.osl 0 0 4 ws.length none, int64 0, int64 0], [.flat (rowW ws) false]) := by
 rw [zs9 c l (by omega), if_neg (by omega), h]
 unfold lwM
 dsimp only
 rw [if_neg h0, if_neg h0]
theorem ztk (c : LexCode code ext) (l : List UInt8) (hl : l.length ≤ 65536) {m : Nat} (h : wordsL l 0 = .inr m) : callW code ext 568 [strV (bs l)] [] = some (.tup [nilS, int64 (m : Nat), int64 4], []) := by
 rw [zs9 c l (by omega), if_neg (by omega), h]
section
variable (c : JoinCode code ext) (a b : List UInt8) (hl : a.length + b.length ≤ 65535)
include c hl
end
end
end Go.EX


set_option linter.unusedVariables false
set_option linter.unusedSimpArgs false
namespace Go.EX
def ext5 (dg : Int → ByteArray) : Calls' := fun f a m =>
 if f = 674 then extCheck 674 674 a m
 else if f = 670 then extStr 670 670 a m
 else if f = 708 then match a with
  | [.imm (.val (.int .i64 n)), .imm (.val (.int .i64 10))] => if -9223372036854775808 ≤ n ∧ n ≤ 9223372036854775807 then some (.imm (.val (.string (dg n))), m) else none
  | _ => none
 else if f = 787 then extPI 787 787 a m
 else if f = 721 then extCl 721 721 a m
 else none
theorem zei {num : Names} {P : Program} (h1 : ExtOK num P (extCheck 674)) (h2 : ExtOK num P (extStr 670)) (h3 : ExtOK num P (extItoa 708)) (h4 : ExtOK num P (extPI 787)) (h5 : ExtOK num P (extCl 721)) : ExtOK num P (ext5 dig) := by
 intro f args m r m' C vals hc hm hl hr
 unfold ext5 at hc
 split at hc
 ·rename_i hf
  exact h1 f args m r m' C vals (by rw [hf]; exact hc) hm hl hr
 split at hc
 ·rename_i hf
  exact h2 f args m r m' C vals (by rw [hf]; exact hc) hm hl hr
 split at hc
 ·rename_i hf
  exact h3 f args m r m' C vals (by rw [hf]; exact hc) hm hl hr
 split at hc
 ·rename_i hf
  exact h4 f args m r m' C vals (by rw [hf]; exact hc) hm hl hr
 split at hc
 ·rename_i hf
  exact h5 f args m r m' C vals (by rw [hf]; exact hc) hm hl hr
 ·cases hc
end Go.EX

