import Derived.Test.YtfmpeoickjggiaaGreatDoorCc9
namespace Go.EX
def x463 : XFun :=
 ⟨[.tmp 4],(.seq (.region [0, 1] [⟨some 4,.mv (.c (.bool false)),none⟩]) (.seq (.seq (.region [0, 1, 14] [⟨some 13,.mv (.t 0),none⟩,
 ⟨some 14,.call .view 468 [.t 13],none⟩]) (.cond (.t 14) (.seq (.region [4] [⟨some 4,.mv (.c (.bool true)),none⟩]) .ret) .skip)) (.seq (.region [0, 1, 5] [⟨some 15,.mv (.t 0),none⟩,
 ⟨some 16,.call .view 374 [.t 15],none⟩,
 ⟨some 5,.mv (.t 16),none⟩]) (.seq (.region [0, 1, 5, 6, 7] [⟨some 18,.mv (.t 5),none⟩,
 ⟨some 19,.mv (.t 1),none⟩,
 ⟨some 20,.call .own 659 [(.t 18),(.t 19)],none⟩,
 ⟨some 17,.mv (.t 20),none⟩,
 ⟨some 21,.extract (.t 17) 0,none⟩,
 ⟨some 22,.extract (.t 17) 1,none⟩,
 ⟨some 6,.mv (.t 21),none⟩,
 ⟨some 7,.mv (.t 22),none⟩]) (.seq (.region [0, 1, 5, 6, 7, 8] [⟨some 24,.mv (.t 5),none⟩,
 ⟨some 25,.mv (.t 1),none⟩,
 ⟨some 26,.call .own 659 [(.t 24),(.t 25)],none⟩,
 ⟨some 23,.mv (.t 26),none⟩,
 ⟨some 27,.extract (.t 23) 0,none⟩,
 ⟨some 28,.extract (.t 23) 1,none⟩,
 ⟨some 8,.mv (.t 27),none⟩,
 ⟨some 9,.mv (.t 28),none⟩]) (.seq (.region [0, 5, 6, 7, 8, 10, 11] [⟨some 30,.mv (.t 0),none⟩,
 ⟨some 31,.mv (.t 1),none⟩,
 ⟨some 32,.call .view 534 [(.t 30),(.t 31)],none⟩,
 ⟨some 29,.mv (.t 32),none⟩,
 ⟨some 33,.extract (.t 29) 0,none⟩,
 ⟨some 34,.extract (.t 29) 1,none⟩,
 ⟨some 10,.mv (.t 33),none⟩,
 ⟨some 11,.mv (.t 34),none⟩]) (.seq (.seq (.region [6, 8, 55] [⟨some 35,.mv (.t 7),none⟩,
 ⟨some 36,.mv (.t 11),none⟩,
 ⟨some 37,.bin .neq (.t 35) (.t 36),none⟩,
 ⟨some 38,.mv (.t 37),none⟩,
 ⟨some 39,.mv (.t 6), some (38, false)⟩,
 ⟨some 40,.mv (.t 10), some (38, false)⟩,
 ⟨some 41,.call .view 350 [(.t 39),(.t 40)], some (38, false)⟩,
 ⟨some 42,.un .not (.t 41), some (38, false)⟩,
 ⟨some 43,.pick (.t 38) (.c (.bool true)) (.t 42),none⟩,
 ⟨some 44,.mv (.t 43),none⟩,
 ⟨some 45,.mv (.t 8), some (44, false)⟩,
 ⟨some 46,.mv (.t 10), some (44, false)⟩,
 ⟨some 47,.call .view 350 [(.t 45),(.t 46)], some (44, false)⟩,
 ⟨some 48,.un .not (.t 47), some (44, false)⟩,
 ⟨some 49,.pick (.t 44) (.c (.bool true)) (.t 48),none⟩,
 ⟨some 50,.mv (.t 49),none⟩,
 ⟨some 51,.mv (.t 5), some (50, false)⟩,
 ⟨some 52,.mv (.t 0), some (50, false)⟩,
 ⟨some 53,.call .view 331 [(.t 51),(.t 52)], some (50, false)⟩,
 ⟨some 54,.un .not (.t 53), some (50, false)⟩,
 ⟨some 55,.pick (.t 50) (.c (.bool true)) (.t 54),none⟩]) (.cond (.t 55) (.seq (.region [4] [⟨some 4,.mv (.c (.bool false)),none⟩]) .ret) .skip)) (.seq (.region [6, 8, 12] [⟨some 56,.build [(.int .i64 0),(.slice none 0 0),(.slice none 0 0),(.slice none 0 0),(.slice none 0 0),(.slice none 0 0),(.slice none 0 0),(.slice none 0 0),(.slice none 0 0),(.slice none 0 0),(.slice none 0 0),(.slice none 0 0),(.slice none 0 0),(.slice none 0 0),(.slice none 0 0),(.slice none 0 0),(.slice none 0 0),(.slice none 0 0),(.slice none 0 0),(.slice none 0 0),(.slice none 0 0)] [],none⟩,
 ⟨some 12,.alloc [(.int .i64 0),(.slice none 0 0),(.slice none 0 0),(.slice none 0 0),(.slice none 0 0),(.slice none 0 0),(.slice none 0 0),(.slice none 0 0),(.slice none 0 0),(.slice none 0 0),(.slice none 0 0),(.slice none 0 0),(.slice none 0 0),(.slice none 0 0),(.slice none 0 0),(.slice none 0 0),(.slice none 0 0),(.slice none 0 0),(.slice none 0 0),(.slice none 0 0),(.slice none 0 0)],none⟩,
 ⟨none,.store 21 (.t 12) (.t 56),none⟩]) (.seq (.region [8, 12] [⟨some 57,.mv (.t 6),none⟩,
 ⟨some 58,.call .share 8 [(.t 12),(.t 57)],none⟩]) (.seq (.region [12] [⟨some 59,.mv (.t 8),none⟩,
 ⟨some 60,.call .share 8 [(.t 12),(.t 59)],none⟩]) (.seq (.region [4] [⟨some 61,.call .share 1 [.t 12],none⟩,
 ⟨some 4,.mv (.t 61),none⟩]) .ret)))))))))))⟩
def x534 : XFun :=
 ⟨[.tmp 4,.tmp 5],(.seq (.region [0, 1] [⟨some 4,.mv (.c (.slice none 0 0)),none⟩,
 ⟨some 5,.mv (.c (.int .i64 0)),none⟩]) (.seq (.region [0, 1, 8] [⟨some 12,.mv (.t 0),none⟩,
 ⟨some 13,.call .view 533 [.t 12],none⟩,
 ⟨some 11,.mv (.t 13),none⟩,
 ⟨some 14,.extract (.t 11) 0,none⟩,
 ⟨some 15,.extract (.t 11) 1,none⟩,
 ⟨some 16,.extract (.t 11) 2,none⟩,
 ⟨some 6,.mv (.t 14),none⟩,
 ⟨some 7,.mv (.t 15),none⟩,
 ⟨some 8,.mv (.t 16),none⟩]) (.seq (.seq (.region [0, 1, 8, 18] [⟨some 17,.mv (.t 8),none⟩,
 ⟨some 18,.bin .neq (.t 17) (.c (.int .i64 0)),none⟩]) (.cond (.t 18) (.seq (.region [4, 5] [⟨some 19,.mv (.t 8),none⟩,
 ⟨some 4,.mv (.c (.slice none 0 0)),none⟩,
 ⟨some 5,.mv (.t 19),none⟩]) .ret) .skip)) (.seq (.seq (.region [0, 1, 27] [⟨some 20,.mv (.t 1),none⟩,
 ⟨some 21,.bin .lss (.t 20) (.c (.int .i64 0)),none⟩,
 ⟨some 22,.mv (.t 21),none⟩,
 ⟨some 23,.mv (.t 1), some (22, false)⟩,
 ⟨some 24,.mv (.t 0), some (22, false)⟩,
 ⟨some 25,.len (.t 24), some (22, false)⟩,
 ⟨some 26,.bin .geq (.t 23) (.t 25), some (22, false)⟩,
 ⟨some 27,.pick (.t 22) (.c (.bool true)) (.t 26),none⟩]) (.cond (.t 27) (.seq (.region [4, 5] [⟨some 4,.mv (.c (.slice none 0 0)),none⟩,
 ⟨some 5,.mv (.c (.int .i64 1)),none⟩]) .ret) .skip)) (.seq (.region [9] [⟨some 29,.mv (.t 0),none⟩,
 ⟨some 30,.mv (.t 1),none⟩,
 ⟨some 31,.idxA 8 (.t 29) (.t 30),none⟩,
 ⟨some 32,.load (some 8) (.t 31),none⟩,
 ⟨some 33,.call .view 540 [.t 32],none⟩,
 ⟨some 28,.mv (.t 33),none⟩,
 ⟨some 34,.extract (.t 28) 0,none⟩,
 ⟨some 35,.extract (.t 28) 1,none⟩,
 ⟨some 9,.mv (.t 34),none⟩,
 ⟨some 10,.mv (.t 35),none⟩]) (.seq (.region [4, 5] [⟨some 36,.mv (.t 9),none⟩,
 ⟨some 4,.mv (.t 36),none⟩,
 ⟨some 5,.mv (.c (.int .i64 0)),none⟩]) .ret))))))⟩
def x8 : XFun :=
 ⟨[],(.region [] [⟨some 4,.mv (.t 0),none⟩,
 ⟨some 5,.mv (.t 1),none⟩,
 ⟨some 6,.call .share 61 [(.t 4),(.t 5)],none⟩])⟩
def x1 : XFun :=
 ⟨[.tmp 2],(.seq (.region [0] [⟨some 2,.mv (.c (.bool false)),none⟩]) (.seq (.region [0] [⟨some 3,.mv (.t 0),none⟩,
 ⟨some 4,.call .share 25 [.t 3],none⟩]) (.seq (.region [0] [⟨some 5,.mv (.t 0),none⟩,
 ⟨some 6,.call .share 29 [.t 5],none⟩]) (.seq (.region [0] [⟨some 7,.mv (.t 0),none⟩,
 ⟨some 8,.call .share 33 [.t 7],none⟩]) (.seq (.region [0] [⟨some 9,.mv (.t 0),none⟩,
 ⟨some 10,.call .share 34 [.t 9],none⟩]) (.seq (.region [0] [⟨some 11,.mv (.t 0),none⟩,
 ⟨some 12,.call .share 28 [.t 11],none⟩]) (.seq (.region [0] [⟨some 13,.mv (.t 0),none⟩,
 ⟨some 14,.call .share 24 [.t 13],none⟩]) (.seq (.region [0] [⟨some 15,.mv (.t 0),none⟩,
 ⟨some 16,.call .share 18 [.t 15],none⟩]) (.seq (.region [0] [⟨some 17,.mv (.t 0),none⟩,
 ⟨some 18,.call .share 17 [.t 17],none⟩]) (.seq (.region [0] [⟨some 19,.mv (.t 0),none⟩,
 ⟨some 20,.call .share 23 [.t 19],none⟩]) (.seq (.region [0] [⟨some 21,.mv (.t 0),none⟩,
 ⟨some 22,.call .share 22 [.t 21],none⟩]) (.seq (.region [0] [⟨some 23,.mv (.t 0),none⟩,
 ⟨some 24,.call .share 21 [.t 23],none⟩]) (.seq (.region [0] [⟨some 25,.mv (.t 0),none⟩,
 ⟨some 26,.call .share 32 [.t 25],none⟩]) (.seq (.region [0] [⟨some 27,.mv (.t 0),none⟩,
 ⟨some 28,.call .share 35 [.t 27],none⟩]) (.seq (.region [0] [⟨some 29,.mv (.t 0),none⟩,
 ⟨some 30,.call .share 30 [.t 29],none⟩]) (.seq (.region [0] [⟨some 31,.mv (.t 0),none⟩,
 ⟨some 32,.call .share 26 [.t 31],none⟩]) (.seq (.region [0] [⟨some 33,.mv (.t 0),none⟩,
 ⟨some 34,.call .share 20 [.t 33],none⟩]) (.seq (.region [0] [⟨some 35,.mv (.t 0),none⟩,
 ⟨some 36,.call .share 19 [.t 35],none⟩]) (.seq (.region [0] [⟨some 37,.mv (.t 0),none⟩,
 ⟨some 38,.call .share 27 [.t 37],none⟩]) (.seq (.region [0] [⟨some 39,.mv (.t 0),none⟩,
 ⟨some 40,.call .share 16 [.t 39],none⟩]) (.seq (.region [0] [⟨some 41,.mv (.t 0),none⟩,
 ⟨some 42,.call .share 31 [.t 41],none⟩]) (.seq (.region [0] [⟨some 43,.mv (.t 0),none⟩,
 ⟨some 44,.call .share 45 [.t 43],none⟩]) (.seq (.region [0] [⟨some 45,.mv (.t 0),none⟩,
 ⟨some 46,.call .share 49 [.t 45],none⟩]) (.seq (.region [0] [⟨some 47,.mv (.t 0),none⟩,
 ⟨some 48,.call .share 53 [.t 47],none⟩]) (.seq (.region [0] [⟨some 49,.mv (.t 0),none⟩,
 ⟨some 50,.call .share 54 [.t 49],none⟩]) (.seq (.region [0] [⟨some 51,.mv (.t 0),none⟩,
 ⟨some 52,.call .share 48 [.t 51],none⟩]) (.seq (.region [0] [⟨some 53,.mv (.t 0),none⟩,
 ⟨some 54,.call .share 44 [.t 53],none⟩]) (.seq (.region [0] [⟨some 55,.mv (.t 0),none⟩,
 ⟨some 56,.call .share 38 [.t 55],none⟩]) (.seq (.region [0] [⟨some 57,.mv (.t 0),none⟩,
 ⟨some 58,.call .share 37 [.t 57],none⟩]) (.seq (.region [0] [⟨some 59,.mv (.t 0),none⟩,
 ⟨some 60,.call .share 43 [.t 59],none⟩]) (.seq (.region [0] [⟨some 61,.mv (.t 0),none⟩,
 ⟨some 62,.call .share 42 [.t 61],none⟩]) (.seq (.region [0] [⟨some 63,.mv (.t 0),none⟩,
 ⟨some 64,.call .share 41 [.t 63],none⟩]) (.seq (.region [0] [⟨some 65,.mv (.t 0),none⟩,
 ⟨some 66,.call .share 52 [.t 65],none⟩]) (.seq (.region [0] [⟨some 67,.mv (.t 0),none⟩,
 ⟨some 68,.call .share 55 [.t 67],none⟩]) (.seq (.region [0] [⟨some 69,.mv (.t 0),none⟩,
 ⟨some 70,.call .share 50 [.t 69],none⟩]) (.seq (.region [0] [⟨some 71,.mv (.t 0),none⟩,
 ⟨some 72,.call .share 46 [.t 71],none⟩]) (.seq (.region [0] [⟨some 73,.mv (.t 0),none⟩,
 ⟨some 74,.call .share 40 [.t 73],none⟩]) (.seq (.region [0] [⟨some 75,.mv (.t 0),none⟩,
 ⟨some 76,.call .share 39 [.t 75],none⟩]) (.seq (.region [0] [⟨some 77,.mv (.t 0),none⟩,
 ⟨some 78,.call .share 47 [.t 77],none⟩]) (.seq (.region [0] [⟨some 79,.mv (.t 0),none⟩,
 ⟨some 80,.call .share 36 [.t 79],none⟩]) (.seq (.region [0] [⟨some 81,.mv (.t 0),none⟩,
 ⟨some 82,.call .share 51 [.t 81],none⟩]) (.seq (.region [2] [⟨some 83,.mv (.t 0),none⟩,
 ⟨some 84,.call .share 75 [.t 83],none⟩,
 ⟨some 85,.mv (.t 84),none⟩,
 ⟨some 86,.mv (.t 0), some (85, true)⟩,
 ⟨some 87,.call .share 79 [.t 86], some (85, true)⟩,
 ⟨some 88,.pick (.t 85) (.t 87) (.c (.bool false)),none⟩,
 ⟨some 89,.mv (.t 88),none⟩,
 ⟨some 90,.mv (.t 0), some (89, true)⟩,
 ⟨some 91,.call .share 83 [.t 90], some (89, true)⟩,
 ⟨some 92,.pick (.t 89) (.t 91) (.c (.bool false)),none⟩,
 ⟨some 93,.mv (.t 92),none⟩,
 ⟨some 94,.mv (.t 0), some (93, true)⟩,
 ⟨some 95,.call .share 84 [.t 94], some (93, true)⟩,
 ⟨some 96,.pick (.t 93) (.t 95) (.c (.bool false)),none⟩,
 ⟨some 97,.mv (.t 96),none⟩,
 ⟨some 98,.mv (.t 0), some (97, true)⟩,
 ⟨some 99,.call .share 78 [.t 98], some (97, true)⟩,
 ⟨some 100,.pick (.t 97) (.t 99) (.c (.bool false)),none⟩,
 ⟨some 101,.mv (.t 100),none⟩,
 ⟨some 102,.mv (.t 0), some (101, true)⟩,
 ⟨some 103,.call .share 74 [.t 102], some (101, true)⟩,
 ⟨some 104,.pick (.t 101) (.t 103) (.c (.bool false)),none⟩,
 ⟨some 105,.mv (.t 104),none⟩,
 ⟨some 106,.mv (.t 0), some (105, true)⟩,
 ⟨some 107,.call .share 68 [.t 106], some (105, true)⟩,
 ⟨some 108,.pick (.t 105) (.t 107) (.c (.bool false)),none⟩,
 ⟨some 109,.mv (.t 108),none⟩,
 ⟨some 110,.mv (.t 0), some (109, true)⟩,
 ⟨some 111,.call .share 67 [.t 110], some (109, true)⟩,
 ⟨some 112,.pick (.t 109) (.t 111) (.c (.bool false)),none⟩,
 ⟨some 113,.mv (.t 112),none⟩,
 ⟨some 114,.mv (.t 0), some (113, true)⟩,
 ⟨some 115,.call .share 73 [.t 114], some (113, true)⟩,
 ⟨some 116,.pick (.t 113) (.t 115) (.c (.bool false)),none⟩,
 ⟨some 117,.mv (.t 116),none⟩,
 ⟨some 118,.mv (.t 0), some (117, true)⟩,
 ⟨some 119,.call .share 72 [.t 118], some (117, true)⟩,
 ⟨some 120,.pick (.t 117) (.t 119) (.c (.bool false)),none⟩,
 ⟨some 121,.mv (.t 120),none⟩,
 ⟨some 122,.mv (.t 0), some (121, true)⟩,
 ⟨some 123,.call .share 71 [.t 122], some (121, true)⟩,
 ⟨some 124,.pick (.t 121) (.t 123) (.c (.bool false)),none⟩,
 ⟨some 125,.mv (.t 124),none⟩,
 ⟨some 126,.mv (.t 0), some (125, true)⟩,
 ⟨some 127,.call .share 82 [.t 126], some (125, true)⟩,
 ⟨some 128,.pick (.t 125) (.t 127) (.c (.bool false)),none⟩,
 ⟨some 129,.mv (.t 128),none⟩,
 ⟨some 130,.mv (.t 0), some (129, true)⟩,
 ⟨some 131,.call .share 85 [.t 130], some (129, true)⟩,
 ⟨some 132,.pick (.t 129) (.t 131) (.c (.bool false)),none⟩,
 ⟨some 133,.mv (.t 132),none⟩,
 ⟨some 134,.mv (.t 0), some (133, true)⟩,
 ⟨some 135,.call .share 80 [.t 134], some (133, true)⟩,
 ⟨some 136,.pick (.t 133) (.t 135) (.c (.bool false)),none⟩,
 ⟨some 137,.mv (.t 136),none⟩,
 ⟨some 138,.mv (.t 0), some (137, true)⟩,
 ⟨some 139,.call .share 76 [.t 138], some (137, true)⟩,
 ⟨some 140,.pick (.t 137) (.t 139) (.c (.bool false)),none⟩,
 ⟨some 141,.mv (.t 140),none⟩,
 ⟨some 142,.mv (.t 0), some (141, true)⟩,
 ⟨some 143,.call .share 70 [.t 142], some (141, true)⟩,
 ⟨some 144,.pick (.t 141) (.t 143) (.c (.bool false)),none⟩,
 ⟨some 145,.mv (.t 144),none⟩,
 ⟨some 146,.mv (.t 0), some (145, true)⟩,
 ⟨some 147,.call .share 69 [.t 146], some (145, true)⟩,
 ⟨some 148,.pick (.t 145) (.t 147) (.c (.bool false)),none⟩,
 ⟨some 149,.mv (.t 148),none⟩,
 ⟨some 150,.mv (.t 0), some (149, true)⟩,
 ⟨some 151,.call .share 77 [.t 150], some (149, true)⟩,
 ⟨some 152,.pick (.t 149) (.t 151) (.c (.bool false)),none⟩,
 ⟨some 153,.mv (.t 152),none⟩,
 ⟨some 154,.mv (.t 0), some (153, true)⟩,
 ⟨some 155,.call .share 66 [.t 154], some (153, true)⟩,
 ⟨some 156,.pick (.t 153) (.t 155) (.c (.bool false)),none⟩,
 ⟨some 157,.mv (.t 156),none⟩,
 ⟨some 158,.mv (.t 0), some (157, true)⟩,
 ⟨some 159,.call .share 81 [.t 158], some (157, true)⟩,
 ⟨some 160,.pick (.t 157) (.t 159) (.c (.bool false)),none⟩,
 ⟨some 2,.mv (.t 160),none⟩]) .ret))))))))))))))))))))))))))))))))))))))))))⟩
def x61 : XFun :=
 ⟨[],(.seq (.region [0, 1] [⟨some 4,.mv (.t 0),none⟩,
 ⟨some 5,.nilCheck (.t 4),none⟩,
 ⟨some 6,.fieldA 0 (.t 5),none⟩,
 ⟨some 7,.load none (.t 6),none⟩,
 ⟨some 8,.bin .add (.t 7) (.c (.int .i64 1)),none⟩,
 ⟨some 9,.nilCheck (.t 4),none⟩,
 ⟨some 10,.fieldA 0 (.t 9),none⟩,
 ⟨none,.store 1 (.t 10) (.t 8),none⟩]) (.region [] [⟨some 11,.mv (.t 0),none⟩,
 ⟨some 12,.mv (.t 0),none⟩,
 ⟨some 13,.nilCheck (.t 12),none⟩,
 ⟨some 14,.fieldA 1 (.t 13),none⟩,
 ⟨some 15,.load none (.t 14),none⟩,
 ⟨some 16,.mv (.t 1),none⟩,
 ⟨some 17,.mv (.t 0),none⟩,
 ⟨some 18,.nilCheck (.t 17),none⟩,
 ⟨some 19,.fieldA 0 (.t 18),none⟩,
 ⟨some 20,.load none (.t 19),none⟩,
 ⟨some 21,.build [(.slice none 0 0),(.slice none 0 0),(.int .i64 0)] [(0, 1,(.t 16)),(2, 1,(.t 20))],none⟩,
 ⟨some 22,.buildSlice 3 [(.slice none 0 0),(.slice none 0 0),(.int .i64 0)] 1 [(0, 3,(.t 21))],none⟩,
 ⟨some 23,.append 3 56 (.t 15) (.t 22),none⟩,
 ⟨some 24,.nilCheck (.t 11),none⟩,
 ⟨some 25,.fieldA 1 (.t 24),none⟩,
 ⟨none,.store 1 (.t 25) (.t 23),none⟩]))⟩
@[simp] def sameC9z1c (n0 : Nat) (n1 : Nat) : XCode :=
 (.seq (.seq (.region [0, 2, 3, 4, 25] [⟨some 21,.mv (.t 4),none⟩,⟨some 22,.fieldA 0 (.t 3),none⟩,⟨some 23,.load none (.t 22),none⟩,⟨some 24,.len (.t 23),none⟩,⟨some 25,.bin .lss (.t 21) (.t 24),none⟩]) (.cond (.t 25) .skip (.exit 2))) (.seq (.block 3 (.region [0, 2, 3, 4] [⟨some 28,.fieldA 0 (.t 3),none⟩,⟨some 29,.load none (.t 28),none⟩,⟨some 30,.mv (.t 4),none⟩,⟨some 31,.fieldA 2 (.t 3),none⟩,⟨some 32,.load none (.t 31),none⟩,⟨some 33,.call .view n0 [.t 32],none⟩,⟨some 34,.idxA n1 (.t 29) (.t 30),none⟩,⟨none,.store n1 (.t 34) (.t 33),none⟩])) (.region [0, 2, 3, 4] [⟨some 26,.mv (.t 4),none⟩,⟨some 27,.bin .add (.t 26) (.c (.int .i64 1)),none⟩,⟨some 4,.mv (.t 27),none⟩])))
def x25L1 : XCode :=
 sameC9z1c 411 1
@[simp] def sameC9z2c (n0 : Nat) (c1 : XCode) : XCode :=
 (.seq (.seq (.region [0, 2, 11] [⟨some 5,.mv (.t 2),none⟩,⟨some 6,.mv (.t 0),none⟩,⟨some 7,.nilCheck (.t 6),none⟩,⟨some 8,.fieldA n0 (.t 7),none⟩,⟨some 9,.load none (.t 8),none⟩,⟨some 10,.len (.t 9),none⟩,⟨some 11,.bin .lss (.t 5) (.t 10),none⟩]) (.cond (.t 11) .skip (.exit 0))) (.seq (.block 1 (.seq (.region [0, 2, 3] [⟨some 14,.mv (.t 0),none⟩,⟨some 15,.nilCheck (.t 14),none⟩,⟨some 16,.fieldA n0 (.t 15),none⟩,⟨some 17,.load none (.t 16),none⟩,⟨some 18,.mv (.t 2),none⟩,⟨some 19,.idxA 3 (.t 17) (.t 18),none⟩,⟨some 20,.load (some 3) (.t 19),none⟩,⟨some 3,.alloc [(.slice none 0 0),(.slice none 0 0),(.int .i64 0)],none⟩,⟨none,.store 3 (.t 3) (.t 20),none⟩]) (.seq (.region [0, 2, 3, 4] [⟨some 4,.mv (.c (.int .i64 0)),none⟩]) (.block 2 (.loop [0, 2, 3, 4] c1))))) (.region [0, 2] [⟨some 12,.mv (.t 2),none⟩,⟨some 13,.bin .add (.t 12) (.c (.int .i64 1)),none⟩,⟨some 2,.mv (.t 13),none⟩])))
def x25L2 : XCode :=
 sameC9z2c 1 x25L1
@[simp] def sameC9z3f (c0 : XCode) : XFun :=
 ⟨[],(.seq (.region [0, 2] [⟨some 2,.mv (.c (.int .i64 0)),none⟩]) (.block 0 (.loop [0, 2] c0)))⟩
def x25 : XFun :=
 sameC9z3f x25L2
def x29L1 : XCode :=
 sameC9z1c 415 1
def x29L2 : XCode :=
 sameC9z2c 2 x29L1
def x29 : XFun :=
 sameC9z3f x29L2
def x33L1 : XCode :=
 sameC9z1c 419 1
def x33L2 : XCode :=
 sameC9z2c 3 x33L1
def x33 : XFun :=
 sameC9z3f x33L2
def x34L1 : XCode :=
 sameC9z1c 420 2
def x34L2 : XCode :=
 sameC9z2c 4 x34L1
def x34 : XFun :=
 sameC9z3f x34L2
def x28L1 : XCode :=
 sameC9z1c 414 5
def x28L2 : XCode :=
 sameC9z2c 5 x28L1
def x28 : XFun :=
 sameC9z3f x28L2
def x24L1 : XCode :=
 sameC9z1c 410 2
def x24L2 : XCode :=
 sameC9z2c 6 x24L1
def x24 : XFun :=
 sameC9z3f x24L2
def x18L1 : XCode :=
 sameC9z1c 404 3
def x18L2 : XCode :=
 sameC9z2c 7 x18L1
def x18 : XFun :=
 sameC9z3f x18L2
def x17L1 : XCode :=
 sameC9z1c 403 2
def x17L2 : XCode :=
 sameC9z2c 8 x17L1
def x17 : XFun :=
 sameC9z3f x17L2
def x23L1 : XCode :=
 sameC9z1c 409 4
def x23L2 : XCode :=
 sameC9z2c 9 x23L1
def x23 : XFun :=
 sameC9z3f x23L2
def x22L1 : XCode :=
 sameC9z1c 408 8
def x22L2 : XCode :=
 sameC9z2c 10 x22L1
def x22 : XFun :=
 sameC9z3f x22L2
def x21L1 : XCode :=
 sameC9z1c 407 7
def x21L2 : XCode :=
 sameC9z2c 11 x21L1
def x21 : XFun :=
 sameC9z3f x21L2
def x32L1 : XCode :=
 sameC9z1c 418 6
def x32L2 : XCode :=
 sameC9z2c 12 x32L1
def x32 : XFun :=
 sameC9z3f x32L2
def x35L1 : XCode :=
 sameC9z1c 421 4
def x35L2 : XCode :=
 sameC9z2c 13 x35L1
def x35 : XFun :=
 sameC9z3f x35L2
def x30L1 : XCode :=
 sameC9z1c 416 6
def x30L2 : XCode :=
 sameC9z2c 14 x30L1
def x30 : XFun :=
 sameC9z3f x30L2
def x26L1 : XCode :=
 sameC9z1c 412 3
def x26L2 : XCode :=
 sameC9z2c 15 x26L1
def x26 : XFun :=
 sameC9z3f x26L2
def x20L1 : XCode :=
 sameC9z1c 406 2
def x20L2 : XCode :=
 sameC9z2c 16 x20L1
def x20 : XFun :=
 sameC9z3f x20L2
def x19L1 : XCode :=
 sameC9z1c 405 3
def x19L2 : XCode :=
 sameC9z2c 17 x19L1
def x19 : XFun :=
 sameC9z3f x19L2
def x27L1 : XCode :=
 sameC9z1c 413 5
def x27L2 : XCode :=
 sameC9z2c 18 x27L1
def x27 : XFun :=
 sameC9z3f x27L2
def x16L1 : XCode :=
 sameC9z1c 402 6
def x16L2 : XCode :=
 sameC9z2c 19 x16L1
def x16 : XFun :=
 sameC9z3f x16L2
def x31L1 : XCode :=
 sameC9z1c 417 2
def x31L2 : XCode :=
 sameC9z2c 20 x31L1
def x31 : XFun :=
 sameC9z3f x31L2
def x45L1 : XCode :=
 (.seq (.seq (.region [0, 2, 3, 4, 5, 25] [⟨some 24,.mv (.t 5),none⟩,
 ⟨some 25,.bin .lss (.t 24) (.c (.int .i64 40)),none⟩]) (.cond (.t 25) .skip (.exit 2))) (.seq (.block 3 (.region [0, 2, 3, 4, 5] [⟨some 28,.mv (.t 4),none⟩,
 ⟨some 29,.fieldA 2 (.t 3),none⟩,
 ⟨some 30,.load none (.t 29),none⟩,
 ⟨some 31,.call .view 411 [.t 30],none⟩,
 ⟨some 32,.buildSlice 1 [(.int .i64 0)] 1 [(0, 1,(.t 31))],none⟩,
 ⟨some 33,.appendK 1 8 (.t 28) (.t 32),none⟩,
 ⟨some 4,.mv (.t 33),none⟩])) (.region [0, 2, 3, 4, 5] [⟨some 26,.mv (.t 5),none⟩,
 ⟨some 27,.bin .add (.t 26) (.c (.int .i64 1)),none⟩,
 ⟨some 5,.mv (.t 27),none⟩])))
@[simp] def sameC9z4c (n0 : Nat) (c1 : XCode) : XCode :=
 (.seq (.seq (.region [0, 2, 12] [⟨some 6,.mv (.t 2),none⟩,⟨some 7,.mv (.t 0),none⟩,⟨some 8,.nilCheck (.t 7),none⟩,⟨some 9,.fieldA n0 (.t 8),none⟩,⟨some 10,.load none (.t 9),none⟩,⟨some 11,.len (.t 10),none⟩,⟨some 12,.bin .lss (.t 6) (.t 11),none⟩]) (.cond (.t 12) .skip (.exit 0))) (.seq (.block 1 (.seq (.region [0, 2, 3] [⟨some 15,.mv (.t 0),none⟩,⟨some 16,.nilCheck (.t 15),none⟩,⟨some 17,.fieldA n0 (.t 16),none⟩,⟨some 18,.load none (.t 17),none⟩,⟨some 19,.mv (.t 2),none⟩,⟨some 20,.idxA 3 (.t 18) (.t 19),none⟩,⟨some 21,.load (some 3) (.t 20),none⟩,⟨some 3,.alloc [(.slice none 0 0),(.slice none 0 0),(.int .i64 0)],none⟩,⟨none,.store 3 (.t 3) (.t 21),none⟩]) (.seq (.region [0, 2, 3, 4] [⟨some 22,.fieldA 0 (.t 3),none⟩,⟨some 23,.load none (.t 22),none⟩,⟨some 4,.mv (.t 23),none⟩]) (.seq (.seq (.region [0, 2, 3, 4, 5] [⟨some 5,.mv (.c (.int .i64 0)),none⟩]) (.block 2 (.loop [0, 2, 3, 4, 5] c1))) (.region [0, 2] [⟨some 34,.mv (.t 0),none⟩,⟨some 35,.nilCheck (.t 34),none⟩,⟨some 36,.fieldA n0 (.t 35),none⟩,⟨some 37,.load none (.t 36),none⟩,⟨some 38,.mv (.t 2),none⟩,⟨some 39,.mv (.t 4),none⟩,⟨some 40,.idxA 3 (.t 37) (.t 38),none⟩,⟨some 41,.fieldA 1 (.t 40),none⟩,⟨none,.store 1 (.t 41) (.t 39),none⟩]))))) (.region [0, 2] [⟨some 13,.mv (.t 2),none⟩,⟨some 14,.bin .add (.t 13) (.c (.int .i64 1)),none⟩,⟨some 2,.mv (.t 14),none⟩])))
def x45L2 : XCode :=
 sameC9z4c 1 x45L1
def x45 : XFun :=
 sameC9z3f x45L2
def x49L1 : XCode :=
 (.seq (.seq (.region [0, 2, 3, 4, 5, 25] [⟨some 24,.mv (.t 5),none⟩,
 ⟨some 25,.bin .lss (.t 24) (.c (.int .i64 40)),none⟩]) (.cond (.t 25) .skip (.exit 2))) (.seq (.block 3 (.region [0, 2, 3, 4, 5] [⟨some 28,.mv (.t 4),none⟩,
 ⟨some 29,.fieldA 2 (.t 3),none⟩,
 ⟨some 30,.load none (.t 29),none⟩,
 ⟨some 31,.call .view 415 [.t 30],none⟩,
 ⟨some 32,.buildSlice 1 [(.int .i64 0)] 1 [(0, 1,(.t 31))],none⟩,
 ⟨some 33,.append 1 8 (.t 28) (.t 32),none⟩,
 ⟨some 4,.mv (.t 33),none⟩])) (.region [0, 2, 3, 4, 5] [⟨some 26,.mv (.t 5),none⟩,
 ⟨some 27,.bin .add (.t 26) (.c (.int .i64 1)),none⟩,
 ⟨some 5,.mv (.t 27),none⟩])))
def x49L2 : XCode :=
 sameC9z4c 2 x49L1
def x49 : XFun :=
 sameC9z3f x49L2
def x53L1 : XCode :=
 (.seq (.seq (.region [0, 2, 3, 4, 5, 25] [⟨some 24,.mv (.t 5),none⟩,
 ⟨some 25,.bin .lss (.t 24) (.c (.int .i64 40)),none⟩]) (.cond (.t 25) .skip (.exit 2))) (.seq (.block 3 (.region [0, 2, 3, 4, 5] [⟨some 28,.mv (.t 4),none⟩,
 ⟨some 29,.fieldA 2 (.t 3),none⟩,
 ⟨some 30,.load none (.t 29),none⟩,
 ⟨some 31,.call .view 419 [.t 30],none⟩,
 ⟨some 32,.buildSlice 1 [(.string .empty)] 1 [(0, 1,(.t 31))],none⟩,
 ⟨some 33,.append 1 16 (.t 28) (.t 32),none⟩,
 ⟨some 4,.mv (.t 33),none⟩])) (.region [0, 2, 3, 4, 5] [⟨some 26,.mv (.t 5),none⟩,
 ⟨some 27,.bin .add (.t 26) (.c (.int .i64 1)),none⟩,
 ⟨some 5,.mv (.t 27),none⟩])))
def x53L2 : XCode :=
 sameC9z4c 3 x53L1
def x53 : XFun :=
 sameC9z3f x53L2
@[simp] def sameC9z5c (n0 : Nat) : XCode :=
 (.seq (.seq (.region [0, 2, 3, 4, 5, 25] [⟨some 24,.mv (.t 5),none⟩,⟨some 25,.bin .lss (.t 24) (.c (.int .i64 40)),none⟩]) (.cond (.t 25) .skip (.exit 2))) (.seq (.block 3 (.region [0, 2, 3, 4, 5] [⟨some 28,.mv (.t 4),none⟩,⟨some 29,.fieldA 2 (.t 3),none⟩,⟨some 30,.load none (.t 29),none⟩,⟨some 31,.call .view n0 [.t 30],none⟩,⟨some 32,.buildSlice 2 [(.int .u8 0),(.int .i64 0)] 1 [(0, 2,(.t 31))],none⟩,⟨some 33,.append 2 16 (.t 28) (.t 32),none⟩,⟨some 4,.mv (.t 33),none⟩])) (.region [0, 2, 3, 4, 5] [⟨some 26,.mv (.t 5),none⟩,⟨some 27,.bin .add (.t 26) (.c (.int .i64 1)),none⟩,⟨some 5,.mv (.t 27),none⟩])))
def x54L1 : XCode :=
 sameC9z5c 420
def x54L2 : XCode :=
 sameC9z4c 4 x54L1
def x54 : XFun :=
 sameC9z3f x54L2
def x48L1 : XCode :=
 (.seq (.seq (.region [0, 2, 3, 4, 5, 25] [⟨some 24,.mv (.t 5),none⟩,
 ⟨some 25,.bin .lss (.t 24) (.c (.int .i64 40)),none⟩]) (.cond (.t 25) .skip (.exit 2))) (.seq (.block 3 (.region [0, 2, 3, 4, 5] [⟨some 28,.mv (.t 4),none⟩,
 ⟨some 29,.fieldA 2 (.t 3),none⟩,
 ⟨some 30,.load none (.t 29),none⟩,
 ⟨some 31,.call .view 414 [.t 30],none⟩,
 ⟨some 32,.buildSlice 5 [(.int .u8 0),(.string .empty),(.slice none 0 0),(.int .i64 0),(.int .i64 0)] 1 [(0, 5,(.t 31))],none⟩,
 ⟨some 33,.append 5 64 (.t 28) (.t 32),none⟩,
 ⟨some 4,.mv (.t 33),none⟩])) (.region [0, 2, 3, 4, 5] [⟨some 26,.mv (.t 5),none⟩,
 ⟨some 27,.bin .add (.t 26) (.c (.int .i64 1)),none⟩,
 ⟨some 5,.mv (.t 27),none⟩])))
def x48L2 : XCode :=
 sameC9z4c 5 x48L1
def x48 : XFun :=
 sameC9z3f x48L2
def x44L1 : XCode :=
 sameC9z5c 410
def x44L2 : XCode :=
 sameC9z4c 6 x44L1
def x44 : XFun :=
 sameC9z3f x44L2
def x38L1 : XCode :=
 (.seq (.seq (.region [0, 2, 3, 4, 5, 25] [⟨some 24,.mv (.t 5),none⟩,
 ⟨some 25,.bin .lss (.t 24) (.c (.int .i64 40)),none⟩]) (.cond (.t 25) .skip (.exit 2))) (.seq (.block 3 (.region [0, 2, 3, 4, 5] [⟨some 28,.mv (.t 4),none⟩,
 ⟨some 29,.fieldA 2 (.t 3),none⟩,
 ⟨some 30,.load none (.t 29),none⟩,
 ⟨some 31,.call .view 404 [.t 30],none⟩,
 ⟨some 32,.buildSlice 3 [(.int .u8 0),(.int .i64 0),(.string .empty)] 1 [(0, 3,(.t 31))],none⟩,
 ⟨some 33,.append 3 32 (.t 28) (.t 32),none⟩,
 ⟨some 4,.mv (.t 33),none⟩])) (.region [0, 2, 3, 4, 5] [⟨some 26,.mv (.t 5),none⟩,
 ⟨some 27,.bin .add (.t 26) (.c (.int .i64 1)),none⟩,
 ⟨some 5,.mv (.t 27),none⟩])))
def x38L2 : XCode :=
 sameC9z4c 7 x38L1
def x38 : XFun :=
 sameC9z3f x38L2
def x37L1 : XCode :=
 (.seq (.seq (.region [0, 2, 3, 4, 5, 25] [⟨some 24,.mv (.t 5),none⟩,
 ⟨some 25,.bin .lss (.t 24) (.c (.int .i64 40)),none⟩]) (.cond (.t 25) .skip (.exit 2))) (.seq (.block 3 (.region [0, 2, 3, 4, 5] [⟨some 28,.mv (.t 4),none⟩,
 ⟨some 29,.fieldA 2 (.t 3),none⟩,
 ⟨some 30,.load none (.t 29),none⟩,
 ⟨some 31,.call .view 403 [.t 30],none⟩,
 ⟨some 32,.buildSlice 2 [(.bool false),(.int .i64 0)] 1 [(0, 2,(.t 31))],none⟩,
 ⟨some 33,.append 2 16 (.t 28) (.t 32),none⟩,
 ⟨some 4,.mv (.t 33),none⟩])) (.region [0, 2, 3, 4, 5] [⟨some 26,.mv (.t 5),none⟩,
 ⟨some 27,.bin .add (.t 26) (.c (.int .i64 1)),none⟩,
 ⟨some 5,.mv (.t 27),none⟩])))
def x37L2 : XCode :=
 sameC9z4c 8 x37L1
def x37 : XFun :=
 sameC9z3f x37L2
def x43L1 : XCode :=
 (.seq (.seq (.region [0, 2, 3, 4, 5, 25] [⟨some 24,.mv (.t 5),none⟩,
 ⟨some 25,.bin .lss (.t 24) (.c (.int .i64 40)),none⟩]) (.cond (.t 25) .skip (.exit 2))) (.seq (.block 3 (.region [0, 2, 3, 4, 5] [⟨some 28,.mv (.t 4),none⟩,
 ⟨some 29,.fieldA 2 (.t 3),none⟩,
 ⟨some 30,.load none (.t 29),none⟩,
 ⟨some 31,.call .view 409 [.t 30],none⟩,
 ⟨some 32,.buildSlice 4 [(.int .i64 0),(.int .i64 0),(.int .i64 0),(.int .i64 0)] 1 [(0, 4,(.t 31))],none⟩,
 ⟨some 33,.append 4 32 (.t 28) (.t 32),none⟩,
 ⟨some 4,.mv (.t 33),none⟩])) (.region [0, 2, 3, 4, 5] [⟨some 26,.mv (.t 5),none⟩,
 ⟨some 27,.bin .add (.t 26) (.c (.int .i64 1)),none⟩,
 ⟨some 5,.mv (.t 27),none⟩])))
def x43L2 : XCode :=
 sameC9z4c 9 x43L1
def x43 : XFun :=
 sameC9z3f x43L2
def x42L1 : XCode :=
 (.seq (.seq (.region [0, 2, 3, 4, 5, 25] [⟨some 24,.mv (.t 5),none⟩,
 ⟨some 25,.bin .lss (.t 24) (.c (.int .i64 40)),none⟩]) (.cond (.t 25) .skip (.exit 2))) (.seq (.block 3 (.region [0, 2, 3, 4, 5] [⟨some 28,.mv (.t 4),none⟩,
 ⟨some 29,.fieldA 2 (.t 3),none⟩,
 ⟨some 30,.load none (.t 29),none⟩,
 ⟨some 31,.call .view 408 [.t 30],none⟩,
 ⟨some 32,.buildSlice 8 [(.string .empty),(.int .i64 0),(.int .i64 0),(.slice none 0 0),(.slice none 0 0),(.slice none 0 0),(.slice none 0 0),(.slice none 0 0)] 1 [(0, 8,(.t 31))],none⟩,
 ⟨some 33,.append 8 152 (.t 28) (.t 32),none⟩,
 ⟨some 4,.mv (.t 33),none⟩])) (.region [0, 2, 3, 4, 5] [⟨some 26,.mv (.t 5),none⟩,
 ⟨some 27,.bin .add (.t 26) (.c (.int .i64 1)),none⟩,
 ⟨some 5,.mv (.t 27),none⟩])))
def x42L2 : XCode :=
 sameC9z4c 10 x42L1
def x42 : XFun :=
 sameC9z3f x42L2
def x41L1 : XCode :=
 (.seq (.seq (.region [0, 2, 3, 4, 5, 25] [⟨some 24,.mv (.t 5),none⟩,
 ⟨some 25,.bin .lss (.t 24) (.c (.int .i64 40)),none⟩]) (.cond (.t 25) .skip (.exit 2))) (.seq (.block 3 (.region [0, 2, 3, 4, 5] [⟨some 28,.mv (.t 4),none⟩,
 ⟨some 29,.fieldA 2 (.t 3),none⟩,
 ⟨some 30,.load none (.t 29),none⟩,
 ⟨some 31,.call .view 407 [.t 30],none⟩,
 ⟨some 32,.buildSlice 7 [(.int .u8 0),(.int .i64 0),(.string .empty),(.slice none 0 0),(.slice none 0 0),(.slice none 0 0),(.int .i64 0)] 1 [(0, 7,(.t 31))],none⟩,
 ⟨some 33,.append 7 112 (.t 28) (.t 32),none⟩,
 ⟨some 4,.mv (.t 33),none⟩])) (.region [0, 2, 3, 4, 5] [⟨some 26,.mv (.t 5),none⟩,
 ⟨some 27,.bin .add (.t 26) (.c (.int .i64 1)),none⟩,
 ⟨some 5,.mv (.t 27),none⟩])))
def x41L2 : XCode :=
 sameC9z4c 11 x41L1
def x41 : XFun :=
 sameC9z3f x41L2
def x52L1 : XCode :=
 (.seq (.seq (.region [0, 2, 3, 4, 5, 25] [⟨some 24,.mv (.t 5),none⟩,
 ⟨some 25,.bin .lss (.t 24) (.c (.int .i64 40)),none⟩]) (.cond (.t 25) .skip (.exit 2))) (.seq (.block 3 (.region [0, 2, 3, 4, 5] [⟨some 28,.mv (.t 4),none⟩,
 ⟨some 29,.fieldA 2 (.t 3),none⟩,
 ⟨some 30,.load none (.t 29),none⟩,
 ⟨some 31,.call .view 418 [.t 30],none⟩,
 ⟨some 32,.buildSlice 6 [(.int .u8 0),(.string .empty),(.slice none 0 0),(.slice none 0 0),(.slice none 0 0),(.int .i64 0)] 1 [(0, 6,(.t 31))],none⟩,
 ⟨some 33,.append 6 104 (.t 28) (.t 32),none⟩,
 ⟨some 4,.mv (.t 33),none⟩])) (.region [0, 2, 3, 4, 5] [⟨some 26,.mv (.t 5),none⟩,
 ⟨some 27,.bin .add (.t 26) (.c (.int .i64 1)),none⟩,
 ⟨some 5,.mv (.t 27),none⟩])))
def x52L2 : XCode :=
 sameC9z4c 12 x52L1
def x52 : XFun :=
 sameC9z3f x52L2
def x55L1 : XCode :=
 (.seq (.seq (.region [0, 2, 3, 4, 5, 25] [⟨some 24,.mv (.t 5),none⟩,
 ⟨some 25,.bin .lss (.t 24) (.c (.int .i64 40)),none⟩]) (.cond (.t 25) .skip (.exit 2))) (.seq (.block 3 (.region [0, 2, 3, 4, 5] [⟨some 28,.mv (.t 4),none⟩,
 ⟨some 29,.fieldA 2 (.t 3),none⟩,
 ⟨some 30,.load none (.t 29),none⟩,
 ⟨some 31,.call .view 421 [.t 30],none⟩,
 ⟨some 32,.buildSlice 4 [(.int .u8 0),(.string .empty),(.int .i64 0),(.int .i64 0)] 1 [(0, 4,(.t 31))],none⟩,
 ⟨some 33,.append 4 40 (.t 28) (.t 32),none⟩,
 ⟨some 4,.mv (.t 33),none⟩])) (.region [0, 2, 3, 4, 5] [⟨some 26,.mv (.t 5),none⟩,
 ⟨some 27,.bin .add (.t 26) (.c (.int .i64 1)),none⟩,
 ⟨some 5,.mv (.t 27),none⟩])))
def x55L2 : XCode :=
 sameC9z4c 13 x55L1
def x55 : XFun :=
 sameC9z3f x55L2
def x50L1 : XCode :=
 (.seq (.seq (.region [0, 2, 3, 4, 5, 25] [⟨some 24,.mv (.t 5),none⟩,
 ⟨some 25,.bin .lss (.t 24) (.c (.int .i64 40)),none⟩]) (.cond (.t 25) .skip (.exit 2))) (.seq (.block 3 (.region [0, 2, 3, 4, 5] [⟨some 28,.mv (.t 4),none⟩,
 ⟨some 29,.fieldA 2 (.t 3),none⟩,
 ⟨some 30,.load none (.t 29),none⟩,
 ⟨some 31,.call .view 416 [.t 30],none⟩,
 ⟨some 32,.buildSlice 6 [(.int .u8 0),(.int .i64 0),(.slice none 0 0),(.int .i64 0),(.int .u8 0),(.int .i64 0)] 1 [(0, 6,(.t 31))],none⟩,
 ⟨some 33,.append 6 64 (.t 28) (.t 32),none⟩,
 ⟨some 4,.mv (.t 33),none⟩])) (.region [0, 2, 3, 4, 5] [⟨some 26,.mv (.t 5),none⟩,
 ⟨some 27,.bin .add (.t 26) (.c (.int .i64 1)),none⟩,
 ⟨some 5,.mv (.t 27),none⟩])))
def x50L2 : XCode :=
 sameC9z4c 14 x50L1
def x50 : XFun :=
 sameC9z3f x50L2
def x46L1 : XCode :=
 (.seq (.seq (.region [0, 2, 3, 4, 5, 25] [⟨some 24,.mv (.t 5),none⟩,
 ⟨some 25,.bin .lss (.t 24) (.c (.int .i64 40)),none⟩]) (.cond (.t 25) .skip (.exit 2))) (.seq (.block 3 (.region [0, 2, 3, 4, 5] [⟨some 28,.mv (.t 4),none⟩,
 ⟨some 29,.fieldA 2 (.t 3),none⟩,
 ⟨some 30,.load none (.t 29),none⟩,
 ⟨some 31,.call .view 412 [.t 30],none⟩,
 ⟨some 32,.buildSlice 3 [(.int .i64 0),(.int .u8 0),(.int .i64 0)] 1 [(0, 3,(.t 31))],none⟩,
 ⟨some 33,.append 3 24 (.t 28) (.t 32),none⟩,
 ⟨some 4,.mv (.t 33),none⟩])) (.region [0, 2, 3, 4, 5] [⟨some 26,.mv (.t 5),none⟩,
 ⟨some 27,.bin .add (.t 26) (.c (.int .i64 1)),none⟩,
 ⟨some 5,.mv (.t 27),none⟩])))
def x46L2 : XCode :=
 sameC9z4c 15 x46L1
def x46 : XFun :=
 sameC9z3f x46L2
@[simp] def sameC9z6c (n0 : Nat) : XCode :=
 (.seq (.seq (.region [0, 2, 3, 4, 5, 25] [⟨some 24,.mv (.t 5),none⟩,⟨some 25,.bin .lss (.t 24) (.c (.int .i64 40)),none⟩]) (.cond (.t 25) .skip (.exit 2))) (.seq (.block 3 (.region [0, 2, 3, 4, 5] [⟨some 28,.mv (.t 4),none⟩,⟨some 29,.fieldA 2 (.t 3),none⟩,⟨some 30,.load none (.t 29),none⟩,⟨some 31,.call .view n0 [.t 30],none⟩,⟨some 32,.buildSlice 2 [(.int .i64 0),(.slice none 0 0)] 1 [(0, 2,(.t 31))],none⟩,⟨some 33,.append 2 32 (.t 28) (.t 32),none⟩,⟨some 4,.mv (.t 33),none⟩])) (.region [0, 2, 3, 4, 5] [⟨some 26,.mv (.t 5),none⟩,⟨some 27,.bin .add (.t 26) (.c (.int .i64 1)),none⟩,⟨some 5,.mv (.t 27),none⟩])))
def x40L1 : XCode :=
 sameC9z6c 406
def x40L2 : XCode :=
 sameC9z4c 16 x40L1
def x40 : XFun :=
 sameC9z3f x40L2
def x39L1 : XCode :=
 (.seq (.seq (.region [0, 2, 3, 4, 5, 25] [⟨some 24,.mv (.t 5),none⟩,
 ⟨some 25,.bin .lss (.t 24) (.c (.int .i64 40)),none⟩]) (.cond (.t 25) .skip (.exit 2))) (.seq (.block 3 (.region [0, 2, 3, 4, 5] [⟨some 28,.mv (.t 4),none⟩,
 ⟨some 29,.fieldA 2 (.t 3),none⟩,
 ⟨some 30,.load none (.t 29),none⟩,
 ⟨some 31,.call .view 405 [.t 30],none⟩,
 ⟨some 32,.buildSlice 3 [(.int .i64 0),(.int .i64 0),(.slice none 0 0)] 1 [(0, 3,(.t 31))],none⟩,
 ⟨some 33,.append 3 40 (.t 28) (.t 32),none⟩,
 ⟨some 4,.mv (.t 33),none⟩])) (.region [0, 2, 3, 4, 5] [⟨some 26,.mv (.t 5),none⟩,
 ⟨some 27,.bin .add (.t 26) (.c (.int .i64 1)),none⟩,
 ⟨some 5,.mv (.t 27),none⟩])))
def x39L2 : XCode :=
 sameC9z4c 17 x39L1
def x39 : XFun :=
 sameC9z3f x39L2
def x47L1 : XCode :=
 (.seq (.seq (.region [0, 2, 3, 4, 5, 25] [⟨some 24,.mv (.t 5),none⟩,
 ⟨some 25,.bin .lss (.t 24) (.c (.int .i64 40)),none⟩]) (.cond (.t 25) .skip (.exit 2))) (.seq (.block 3 (.region [0, 2, 3, 4, 5] [⟨some 28,.mv (.t 4),none⟩,
 ⟨some 29,.fieldA 2 (.t 3),none⟩,
 ⟨some 30,.load none (.t 29),none⟩,
 ⟨some 31,.call .view 413 [.t 30],none⟩,
 ⟨some 32,.buildSlice 5 [(.int .u8 0),(.slice none 0 0),(.int .i64 0),(.int .u8 0),(.int .i64 0)] 1 [(0, 5,(.t 31))],none⟩,
 ⟨some 33,.append 5 56 (.t 28) (.t 32),none⟩,
 ⟨some 4,.mv (.t 33),none⟩])) (.region [0, 2, 3, 4, 5] [⟨some 26,.mv (.t 5),none⟩,
 ⟨some 27,.bin .add (.t 26) (.c (.int .i64 1)),none⟩,
 ⟨some 5,.mv (.t 27),none⟩])))
def x47L2 : XCode :=
 sameC9z4c 18 x47L1
def x47 : XFun :=
 sameC9z3f x47L2
def x36L1 : XCode :=
 (.seq (.seq (.region [0, 2, 3, 4, 5, 25] [⟨some 24,.mv (.t 5),none⟩,
 ⟨some 25,.bin .lss (.t 24) (.c (.int .i64 40)),none⟩]) (.cond (.t 25) .skip (.exit 2))) (.seq (.block 3 (.region [0, 2, 3, 4, 5] [⟨some 28,.mv (.t 4),none⟩,
 ⟨some 29,.fieldA 2 (.t 3),none⟩,
 ⟨some 30,.load none (.t 29),none⟩,
 ⟨some 31,.call .view 402 [.t 30],none⟩,
 ⟨some 32,.buildSlice 6 [(.slice none 0 0),(.int .u8 0),(.slice none 0 0),(.slice none 0 0),(.slice none 0 0),(.int .i64 0)] 1 [(0, 6,(.t 31))],none⟩,
 ⟨some 33,.append 6 112 (.t 28) (.t 32),none⟩,
 ⟨some 4,.mv (.t 33),none⟩])) (.region [0, 2, 3, 4, 5] [⟨some 26,.mv (.t 5),none⟩,
 ⟨some 27,.bin .add (.t 26) (.c (.int .i64 1)),none⟩,
 ⟨some 5,.mv (.t 27),none⟩])))
def x36L2 : XCode :=
 sameC9z4c 19 x36L1
def x36 : XFun :=
 sameC9z3f x36L2
def x51L1 : XCode :=
 sameC9z6c 417
def x51L2 : XCode :=
 sameC9z4c 20 x51L1
def x51 : XFun :=
 sameC9z3f x51L2
@[simp] def sameC9z7c (n0 : Nat) : XCode :=
 (.seq (.seq (.region [0, 3, 4, 5, 34] [⟨some 30,.mv (.t 5),none⟩,⟨some 31,.fieldA 1 (.t 4),none⟩,⟨some 32,.load none (.t 31),none⟩,⟨some 33,.len (.t 32),none⟩,⟨some 34,.bin .lss (.t 30) (.t 33),none⟩]) (.cond (.t 34) .skip (.exit 2))) (.seq (.block 3 (.seq (.region [0, 3, 4, 5, 63] [⟨some 37,.fieldA 1 (.t 4),none⟩,⟨some 38,.load none (.t 37),none⟩,⟨some 39,.mv (.t 5),none⟩,⟨some 40,.idxA 1 (.t 38) (.t 39),none⟩,⟨some 41,.load none (.t 40),none⟩,⟨some 42,.fieldA 2 (.t 4),none⟩,⟨some 43,.load none (.t 42),none⟩,⟨some 44,.call .view n0 [(.t 41),(.t 43)],none⟩,⟨some 45,.un .not (.t 44),none⟩,⟨some 46,.mv (.t 45),none⟩,⟨some 47,.mv (.t 5), some (46, false)⟩,⟨some 48,.fieldA 0 (.t 4), some (46, false)⟩,⟨some 49,.load none (.t 48), some (46, false)⟩,⟨some 50,.len (.t 49), some (46, false)⟩,⟨some 51,.bin .lss (.t 47) (.t 50), some (46, false)⟩,⟨some 52,.mv (.t 51), some (46, false)⟩,⟨some 53,.fieldA 0 (.t 4), some (52, true)⟩,⟨some 54,.load none (.t 53), some (52, true)⟩,⟨some 55,.mv (.t 5), some (52, true)⟩,⟨some 56,.idxA 1 (.t 54) (.t 55), some (52, true)⟩,⟨some 57,.load none (.t 56), some (52, true)⟩,⟨some 58,.fieldA 2 (.t 4), some (52, true)⟩,⟨some 59,.load none (.t 58), some (52, true)⟩,⟨some 60,.call .view n0 [(.t 57),(.t 59)], some (52, true)⟩,⟨some 61,.un .not (.t 60), some (52, true)⟩,⟨some 62,.pick (.t 52) (.t 61) (.c (.bool false)), some (46, false)⟩,⟨some 63,.pick (.t 46) (.c (.bool true)) (.t 62),none⟩]) (.cond (.t 63) (.seq (.region [2] [⟨some 2,.mv (.c (.bool false)),none⟩]) .ret) .skip))) (.region [0, 3, 4, 5] [⟨some 35,.mv (.t 5),none⟩,⟨some 36,.bin .add (.t 35) (.c (.int .i64 1)),none⟩,⟨some 5,.mv (.t 36),none⟩])))
def x75L1 : XCode :=
 sameC9z7c 391
@[simp] def sameC9z8c (n0 : Nat) (c1 : XCode) : XCode :=
 (.seq (.seq (.region [0, 3, 12] [⟨some 6,.mv (.t 3),none⟩,⟨some 7,.mv (.t 0),none⟩,⟨some 8,.nilCheck (.t 7),none⟩,⟨some 9,.fieldA n0 (.t 8),none⟩,⟨some 10,.load none (.t 9),none⟩,⟨some 11,.len (.t 10),none⟩,⟨some 12,.bin .lss (.t 6) (.t 11),none⟩]) (.cond (.t 12) .skip (.exit 0))) (.seq (.block 1 (.seq (.region [0, 3, 4] [⟨some 15,.mv (.t 0),none⟩,⟨some 16,.nilCheck (.t 15),none⟩,⟨some 17,.fieldA n0 (.t 16),none⟩,⟨some 18,.load none (.t 17),none⟩,⟨some 19,.mv (.t 3),none⟩,⟨some 20,.idxA 3 (.t 18) (.t 19),none⟩,⟨some 21,.load (some 3) (.t 20),none⟩,⟨some 4,.alloc [(.slice none 0 0),(.slice none 0 0),(.int .i64 0)],none⟩,⟨none,.store 3 (.t 4) (.t 21),none⟩]) (.seq (.seq (.region [0, 3, 4, 29] [⟨some 22,.fieldA 1 (.t 4),none⟩,⟨some 23,.load none (.t 22),none⟩,⟨some 24,.len (.t 23),none⟩,⟨some 25,.fieldA 0 (.t 4),none⟩,⟨some 26,.load none (.t 25),none⟩,⟨some 27,.len (.t 26),none⟩,⟨some 28,.bin .add (.t 27) (.c (.int .i64 40)),none⟩,⟨some 29,.bin .neq (.t 24) (.t 28),none⟩]) (.cond (.t 29) (.seq (.region [2] [⟨some 2,.mv (.c (.bool false)),none⟩]) .ret) .skip)) (.seq (.region [0, 3, 4, 5] [⟨some 5,.mv (.c (.int .i64 0)),none⟩]) (.block 2 (.loop [0, 3, 4, 5] c1)))))) (.region [0, 3] [⟨some 13,.mv (.t 3),none⟩,⟨some 14,.bin .add (.t 13) (.c (.int .i64 1)),none⟩,⟨some 3,.mv (.t 14),none⟩])))
def x75L2 : XCode :=
 sameC9z8c 1 x75L1
@[simp] def sameC9z9f (c0 : XCode) : XFun :=
 ⟨[.tmp 2],(.seq (.region [0] [⟨some 2,.mv (.c (.bool false)),none⟩]) (.seq (.seq (.region [0, 3] [⟨some 3,.mv (.c (.int .i64 0)),none⟩]) (.block 0 (.loop [0, 3] c0))) (.seq (.region [2] [⟨some 2,.mv (.c (.bool true)),none⟩]) .ret)))⟩
def x75 : XFun :=
 sameC9z9f x75L2
def x79L1 : XCode :=
 sameC9z7c 395
def x79L2 : XCode :=
 sameC9z8c 2 x79L1
def x79 : XFun :=
 sameC9z9f x79L2
def x83L1 : XCode :=
 sameC9z7c 399
def x83L2 : XCode :=
 sameC9z8c 3 x83L1
def x83 : XFun :=
 sameC9z9f x83L2
@[simp] def sameC9z10c (n0 : Nat) (n1 : Nat) : XCode :=
 (.seq (.seq (.region [0, 3, 4, 5, 34] [⟨some 30,.mv (.t 5),none⟩,⟨some 31,.fieldA 1 (.t 4),none⟩,⟨some 32,.load none (.t 31),none⟩,⟨some 33,.len (.t 32),none⟩,⟨some 34,.bin .lss (.t 30) (.t 33),none⟩]) (.cond (.t 34) .skip (.exit 2))) (.seq (.block 3 (.seq (.region [0, 3, 4, 5, 63] [⟨some 37,.fieldA 1 (.t 4),none⟩,⟨some 38,.load none (.t 37),none⟩,⟨some 39,.mv (.t 5),none⟩,⟨some 40,.idxA n0 (.t 38) (.t 39),none⟩,⟨some 41,.load (some n0) (.t 40),none⟩,⟨some 42,.fieldA 2 (.t 4),none⟩,⟨some 43,.load none (.t 42),none⟩,⟨some 44,.call .view n1 [(.t 41),(.t 43)],none⟩,⟨some 45,.un .not (.t 44),none⟩,⟨some 46,.mv (.t 45),none⟩,⟨some 47,.mv (.t 5), some (46, false)⟩,⟨some 48,.fieldA 0 (.t 4), some (46, false)⟩,⟨some 49,.load none (.t 48), some (46, false)⟩,⟨some 50,.len (.t 49), some (46, false)⟩,⟨some 51,.bin .lss (.t 47) (.t 50), some (46, false)⟩,⟨some 52,.mv (.t 51), some (46, false)⟩,⟨some 53,.fieldA 0 (.t 4), some (52, true)⟩,⟨some 54,.load none (.t 53), some (52, true)⟩,⟨some 55,.mv (.t 5), some (52, true)⟩,⟨some 56,.idxA n0 (.t 54) (.t 55), some (52, true)⟩,⟨some 57,.load (some n0) (.t 56), some (52, true)⟩,⟨some 58,.fieldA 2 (.t 4), some (52, true)⟩,⟨some 59,.load none (.t 58), some (52, true)⟩,⟨some 60,.call .view n1 [(.t 57),(.t 59)], some (52, true)⟩,⟨some 61,.un .not (.t 60), some (52, true)⟩,⟨some 62,.pick (.t 52) (.t 61) (.c (.bool false)), some (46, false)⟩,⟨some 63,.pick (.t 46) (.c (.bool true)) (.t 62),none⟩]) (.cond (.t 63) (.seq (.region [2] [⟨some 2,.mv (.c (.bool false)),none⟩]) .ret) .skip))) (.region [0, 3, 4, 5] [⟨some 35,.mv (.t 5),none⟩,⟨some 36,.bin .add (.t 35) (.c (.int .i64 1)),none⟩,⟨some 5,.mv (.t 36),none⟩])))
def x84L1 : XCode :=
 sameC9z10c 2 400
def x84L2 : XCode :=
 sameC9z8c 4 x84L1
def x84 : XFun :=
 sameC9z9f x84L2
def x78L1 : XCode :=
 sameC9z10c 5 394
def x78L2 : XCode :=
 sameC9z8c 5 x78L1
def x78 : XFun :=
 sameC9z9f x78L2
def x74L1 : XCode :=
 sameC9z10c 2 390
def x74L2 : XCode :=
 sameC9z8c 6 x74L1
def x74 : XFun :=
 sameC9z9f x74L2
def x68L1 : XCode :=
 sameC9z10c 3 384
def x68L2 : XCode :=
 sameC9z8c 7 x68L1
def x68 : XFun :=
 sameC9z9f x68L2
def x67L1 : XCode :=
 sameC9z10c 2 383
def x67L2 : XCode :=
 sameC9z8c 8 x67L1
def x67 : XFun :=
 sameC9z9f x67L2
def x73L1 : XCode :=
 sameC9z10c 4 389
def x73L2 : XCode :=
 sameC9z8c 9 x73L1
def x73 : XFun :=
 sameC9z9f x73L2
def x72L1 : XCode :=
 sameC9z10c 8 388
def x72L2 : XCode :=
 sameC9z8c 10 x72L1
def x72 : XFun :=
 sameC9z9f x72L2
def x71L1 : XCode :=
 sameC9z10c 7 387
def x71L2 : XCode :=
 sameC9z8c 11 x71L1
def x71 : XFun :=
 sameC9z9f x71L2
def x82L1 : XCode :=
 sameC9z10c 6 398
def x82L2 : XCode :=
 sameC9z8c 12 x82L1
def x82 : XFun :=
 sameC9z9f x82L2
def x85L1 : XCode :=
 sameC9z10c 4 401
def x85L2 : XCode :=
 sameC9z8c 13 x85L1
def x85 : XFun :=
 sameC9z9f x85L2
def x80L1 : XCode :=
 sameC9z10c 6 396
def x80L2 : XCode :=
 sameC9z8c 14 x80L1
def x80 : XFun :=
 sameC9z9f x80L2
def x76L1 : XCode :=
 sameC9z10c 3 392
def x76L2 : XCode :=
 sameC9z8c 15 x76L1
def x76 : XFun :=
 sameC9z9f x76L2
def x70L1 : XCode :=
 sameC9z10c 2 386
def x70L2 : XCode :=
 sameC9z8c 16 x70L1
def x70 : XFun :=
 sameC9z9f x70L2
def x69L1 : XCode :=
 sameC9z10c 3 385
def x69L2 : XCode :=
 sameC9z8c 17 x69L1
def x69 : XFun :=
 sameC9z9f x69L2
def x77L1 : XCode :=
 sameC9z10c 5 393
def x77L2 : XCode :=
 sameC9z8c 18 x77L1
def x77 : XFun :=
 sameC9z9f x77L2
def x66L1 : XCode :=
 sameC9z10c 6 382
def x66L2 : XCode :=
 sameC9z8c 19 x66L1
def x66 : XFun :=
 sameC9z9f x66L2
def x81L1 : XCode :=
 sameC9z10c 2 397
def x81L2 : XCode :=
 sameC9z8c 20 x81L1
def x81 : XFun :=
 sameC9z9f x81L2
def x411 : XFun :=
 ⟨[.tmp 2],(.seq (.region [0] [⟨some 2,.mv (.c (.int .i64 0)),none⟩]) (.seq (.region [2] [⟨some 3,.mv (.t 0),none⟩,
 ⟨some 4,.bin .sub (.c (.int .i64 (-1000))) (.t 3),none⟩,
 ⟨some 2,.mv (.t 4),none⟩]) .ret))⟩
def x391 : XFun :=
 ⟨[.tmp 4],(.seq (.region [0, 1] [⟨some 4,.mv (.c (.bool false)),none⟩]) (.seq (.region [4] [⟨some 5,.mv (.t 0),none⟩,
 ⟨some 6,.mv (.t 1),none⟩,
 ⟨some 7,.bin .sub (.c (.int .i64 (-1000))) (.t 6),none⟩,
 ⟨some 8,.bin .eql (.t 5) (.t 7),none⟩,
 ⟨some 4,.mv (.t 8),none⟩]) .ret))⟩
def code9z : Nat → Option XFun
  | 463 => some x463
  | 534 => some x534
  | 8 => some x8
  | 1 => some x1
  | 61 => some x61
  | 25 => some x25
  | 29 => some x29
  | 33 => some x33
  | 34 => some x34
  | 28 => some x28
  | 24 => some x24
  | 18 => some x18
  | 17 => some x17
  | 23 => some x23
  | 22 => some x22
  | 21 => some x21
  | 32 => some x32
  | 35 => some x35
  | 30 => some x30
  | 26 => some x26
  | 20 => some x20
  | 19 => some x19
  | 27 => some x27
  | 16 => some x16
  | 31 => some x31
  | 45 => some x45
  | 49 => some x49
  | 53 => some x53
  | 54 => some x54
  | 48 => some x48
  | 44 => some x44
  | 38 => some x38
  | 37 => some x37
  | 43 => some x43
  | 42 => some x42
  | 41 => some x41
  | 52 => some x52
  | 55 => some x55
  | 50 => some x50
  | 46 => some x46
  | 40 => some x40
  | 39 => some x39
  | 47 => some x47
  | 36 => some x36
  | 51 => some x51
  | 75 => some x75
  | 79 => some x79
  | 83 => some x83
  | 84 => some x84
  | 78 => some x78
  | 74 => some x74
  | 68 => some x68
  | 67 => some x67
  | 73 => some x73
  | 72 => some x72
  | 71 => some x71
  | 82 => some x82
  | 85 => some x85
  | 80 => some x80
  | 76 => some x76
  | 70 => some x70
  | 69 => some x69
  | 77 => some x77
  | 66 => some x66
  | 81 => some x81
  | 411 => some x411
  | 391 => some x391
  | 462 => some x462
  | 465 => some x465
  | 464 => some x464
  | 468 => some x468
  | 374 => some x374
  | 658 => some x658
  | 533 => some x533
  | 331 => some x331
  | 467 => some x467
  | 659 => some x659
  | 303 => some x303
  | 340 => some x340
  | 368 => some x368
  | 661 => some x661
  | 542 => some x542
  | 538 => some x538
  | 540 => some x540
  | 325 => some x325
  | 470 => some x470
  | 350 => some x350
  | 660 => some x660
  | 248 => some x248
  | 313 => some x313
  | 367 => some x367
  | 662 => some x662
  | 251 => some x251
  | 247 => some x247
  | 539 => some x539
  | 543 => some x543
  | 541 => some x541
  | 537 => some x537
  | 536 => some x536
  | 145 => some x145
  | 535 => some x535
  | 324 => some x324
  | 249 => some x249
  | 737 => some x737
  | 250 => some x250
  | 312 => some x312
  | 363 => some x363
  | 364 => some x364
  | 370 => some x370
  | 371 => some x371
  | 369 => some x369
  | 252 => some x252
  | 253 => some x253
  | 747 => some x747
  | 254 => some x254
  | 750 => some x750
  | 255 => some x255
  | 748 => some x748
  | 256 => some x256
  | 259 => some x259
  | 257 => some x257
  | 320 => some x320
  | 321 => some x321
  | 327 => some x327
  | 328 => some x328
  | 326 => some x326
  | 304 => some x304
  | 305 => some x305
  | 318 => some x318
  | 319 => some x319
  | 314 => some x314
  | 757 => some x757
  | 760 => some x760
  | 758 => some x758
  | 746 => some x746
  | 258 => some x258
  | 756 => some x756
  | _ => none
end Go.EX

