import Derived.Test.YtdmjigplboafjaaK9
import Derived.Test.YtdmjigplboafjaaRows
import Derived.Laws.Strings
namespace Go.EX
def x433L1 : XCode :=
 (.seq (.seq (.region [0, 3, 4, 12, 111] [o0 104 (.mv (.t 12)),
 o0 105 (.mv (.t 0)),
 o0 106 (.lenS (.t 105)),
 o0 107 (.bin .lss (.t 104) (.t 106)),
 o0 108 (.mv (.t 107)),
 o1 109 108 true (.mv (.t 12)),
 o1 110 108 true (.bin .lss (.t 109) (.c (.int .i64 20))),
 o0 111 (.pick (.t 108) (.t 110) (.c (.bool false)))]) (.cond (.t 111) .skip (.exit 0))) (.seq (.block 1 (.seq (.region [0, 3, 4, 12, 13, 14] [o0 115 (.mv (.t 3)),
 o0 116 (.load (some 2) (.t 4)),
 o0 117 (.mv (.t 12)),
 o0 118 (.call .view 437 [.t 117]),
 o0 119 (.call .touch 592 [(.t 115),(.t 116),(.t 118)]),
 o0 114 (.mv (.t 119)),
 o0 120 (.extract (.t 114) 0),
 o0 121 (.extract (.t 114) 1),
 o0 13 (.alloc [(.int .u8 0),(.int .i64 0)]),
 o2 (.store 2 (.t 13) (.t 120)),
 o0 14 (.mv (.t 121))]) (.seq (.region [0, 3, 4, 12, 14, 15, 16] [o0 123 (.mv (.t 3)),
 o0 124 (.load (some 2) (.t 13)),
 o0 125 (.call .peek 605 [(.t 123),(.t 124)]),
 o0 122 (.mv (.t 125)),
 o0 126 (.extract (.t 122) 0),
 o0 127 (.extract (.t 122) 1),
 o0 15 (.mv (.t 126)),
 o0 16 (.mv (.t 127))]) (.seq (.region [0, 3, 4, 12, 142] [o0 128 (.mv (.t 14)),
 o0 129 (.bin .neq (.t 128) (.c (.int .i64 0))),
 o0 130 (.mv (.t 129)),
 o1 131 130 false (.mv (.t 16)),
 o1 132 130 false (.bin .neq (.t 131) (.c (.int .i64 0))),
 o0 133 (.pick (.t 130) (.c (.bool true)) (.t 132)),
 o0 134 (.mv (.t 133)),
 o1 135 134 false (.mv (.t 15)),
 o1 136 134 false (.mv (.t 0)),
 o1 137 134 false (.mv (.t 12)),
 o1 138 134 false (.mv (.t 12)),
 o1 139 134 false (.bin .add (.t 138) (.c (.int .i64 1))),
 o1 140 134 false (.sliceS (.t 136) (some (.t 137)) (some (.t 139))),
 o1 141 134 false (.bin .neq (.t 135) (.t 140)),
 o0 142 (.pick (.t 134) (.c (.bool true)) (.t 141))]) (.cond (.t 142) (.seq (.region [2] [o0 2 (.mv (.c (.bool false)))]) .ret) .skip))))) (.region [0, 3, 4, 12] [o0 112 (.mv (.t 12)),
 o0 113 (.bin .add (.t 112) (.c (.int .i64 1))),
 o0 12 (.mv (.t 113))])))
def x433 : XFun :=
 ⟨[.tmp 2],(.seq (.region [0] [o0 2 (.mv (.c (.bool false)))]) (.seq (.region [0, 3] [o0 19 (.call .own 436 [(.c (.int .i64 2000))]),
 o0 3 (.mv (.t 19))]) (.seq (.region [0, 3, 4, 5] [o0 21 (.mv (.t 3)),
 o0 22 (.mv (.t 0)),
 o0 23 (.call .share 599 [(.t 21),(.t 22)]),
 o0 20 (.mv (.t 23)),
 o0 24 (.extract (.t 20) 0),
 o0 25 (.extract (.t 20) 1),
 o0 4 (.alloc [(.int .u8 0),(.int .i64 0)]),
 o2 (.store 2 (.t 4) (.t 24)),
 o0 5 (.mv (.t 25))]) (.seq (.seq (.region [0, 3, 4, 5, 32] [o0 26 (.call .view 434 []),
 o0 27 (.un .not (.t 26)),
 o0 28 (.mv (.t 27)),
 o1 29 28 false (.mv (.t 0)),
 o1 30 28 false (.lenS (.t 29)),
 o1 31 28 false (.bin .gtr (.t 30) (.c (.int .i64 4096))),
 o0 32 (.pick (.t 28) (.c (.bool true)) (.t 31))]) (.cond (.t 32) (.seq (.region [2] [o0 33 (.call .view 434 []),
 o0 34 (.mv (.t 33)),
 o1 35 34 true (.mv (.t 5)),
 o1 36 34 true (.bin .eql (.t 35) (.c (.int .i64 3))),
 o0 37 (.pick (.t 34) (.t 36) (.c (.bool false))),
 o0 38 (.mv (.t 37)),
 o1 39 38 true (.mv (.t 3)),
 o1 40 38 true (.call .peek 176 [.t 39]),
 o1 41 38 true (.bin .eql (.t 40) (.c (.int .i64 0))),
 o0 42 (.pick (.t 38) (.t 41) (.c (.bool false))),
 o0 2 (.mv (.t 42))]) .ret) .skip)) (.seq (.region [0, 3, 4, 5, 6, 7] [o0 44 (.mv (.t 3)),
 o0 45 (.load (some 2) (.t 4)),
 o0 46 (.call .peek 605 [(.t 44),(.t 45)]),
 o0 43 (.mv (.t 46)),
 o0 47 (.extract (.t 43) 0),
 o0 48 (.extract (.t 43) 1),
 o0 6 (.mv (.t 47)),
 o0 7 (.mv (.t 48))]) (.seq (.region [0, 3, 4, 5, 6, 7, 8, 9] [o0 50 (.mv (.t 3)),
 o0 51 (.load (some 2) (.t 4)),
 o0 52 (.call .peek 594 [(.t 50),(.t 51)]),
 o0 49 (.mv (.t 52)),
 o0 53 (.extract (.t 49) 0),
 o0 54 (.extract (.t 49) 1),
 o0 8 (.mv (.t 53)),
 o0 9 (.mv (.t 54))]) (.seq (.region [0, 3, 4, 5, 6, 7, 8, 9, 10, 11] [o0 56 (.mv (.t 3)),
 o0 57 (.mv (.t 0)),
 o0 58 (.call .share 599 [(.t 56),(.t 57)]),
 o0 55 (.mv (.t 58)),
 o0 59 (.extract (.t 55) 0),
 o0 60 (.extract (.t 55) 1),
 o0 10 (.alloc [(.int .u8 0),(.int .i64 0)]),
 o2 (.store 2 (.t 10) (.t 59)),
 o0 11 (.mv (.t 60))]) (.seq (.seq (.region [0, 3, 4, 103] [o0 61 (.mv (.t 5)),
 o0 62 (.bin .neq (.t 61) (.c (.int .i64 0))),
 o0 63 (.mv (.t 62)),
 o1 64 63 false (.mv (.t 7)),
 o1 65 63 false (.bin .neq (.t 64) (.c (.int .i64 0))),
 o0 66 (.pick (.t 63) (.c (.bool true)) (.t 65)),
 o0 67 (.mv (.t 66)),
 o1 68 67 false (.mv (.t 9)),
 o1 69 67 false (.bin .neq (.t 68) (.c (.int .i64 0))),
 o0 70 (.pick (.t 67) (.c (.bool true)) (.t 69)),
 o0 71 (.mv (.t 70)),
 o1 72 71 false (.mv (.t 11)),
 o1 73 71 false (.bin .neq (.t 72) (.c (.int .i64 0))),
 o0 74 (.pick (.t 71) (.c (.bool true)) (.t 73)),
 o0 75 (.mv (.t 74)),
 o1 76 75 false (.mv (.t 6)),
 o1 77 75 false (.mv (.t 0)),
 o1 78 75 false (.bin .neq (.t 76) (.t 77)),
 o0 79 (.pick (.t 75) (.c (.bool true)) (.t 78)),
 o0 80 (.mv (.t 79)),
 o1 81 80 false (.mv (.t 8)),
 o1 82 80 false (.mv (.t 0)),
 o1 83 80 false (.lenS (.t 82)),
 o1 84 80 false (.bin .neq (.t 81) (.t 83)),
 o0 85 (.pick (.t 80) (.c (.bool true)) (.t 84)),
 o0 86 (.mv (.t 85)),
 o1 87 86 false (.mv (.t 3)),
 o1 88 86 false (.call .peek 176 [.t 87]),
 o1 89 86 false (.mv (.t 0)),
 o1 90 86 false (.lenS (.t 89)),
 o1 91 86 false (.bin .add (.t 90) (.c (.int .i64 7))),
 o1 92 86 false (.bin .quo (.t 91) (.c (.int .i64 8))),
 o1 93 86 false (.bin .add (.c (.int .i64 2)) (.t 92)),
 o1 94 86 false (.bin .mul (.c (.int .i64 2)) (.t 93)),
 o1 95 86 false (.bin .neq (.t 88) (.t 94)),
 o0 96 (.pick (.t 86) (.c (.bool true)) (.t 95)),
 o0 97 (.mv (.t 96)),
 o1 98 97 false (.mv (.t 3)),
 o1 99 97 false (.load (some 2) (.t 4)),
 o1 100 97 false (.load (some 2) (.t 10)),
 o1 101 97 false (.call .peek 603 [(.t 98),(.t 99),(.t 100)]),
 o1 102 97 false (.un .not (.t 101)),
 o0 103 (.pick (.t 97) (.c (.bool true)) (.t 102))]) (.cond (.t 103) (.seq (.region [2] [o0 2 (.mv (.c (.bool false)))]) .ret) .skip)) (.seq (.seq (.region [0, 3, 4, 12] [o0 12 (.mv (.c (.int .i64 0)))]) (.block 0 (.loop [0, 3, 4, 12] x433L1))) (.seq (.region [0, 3, 4, 17, 18] [o0 144 (.mv (.t 3)),
 o0 145 (.mv (.t 0)),
 o0 146 (.bin .add (.t 145) (.c (.string ⟨#[33]⟩))),
 o0 147 (.call .share 599 [(.t 144),(.t 146)]),
 o0 143 (.mv (.t 147)),
 o0 148 (.extract (.t 143) 0),
 o0 149 (.extract (.t 143) 1),
 o0 17 (.alloc [(.int .u8 0),(.int .i64 0)]),
 o2 (.store 2 (.t 17) (.t 148)),
 o0 18 (.mv (.t 149))]) (.seq (.region [2] [o0 150 (.mv (.t 18)),
 o0 151 (.bin .eql (.t 150) (.c (.int .i64 3))),
 o0 152 (.mv (.t 151)),
 o1 153 152 true (.mv (.t 0)),
 o1 154 152 true (.lenS (.t 153)),
 o1 155 152 true (.bin .eql (.t 154) (.c (.int .i64 4096))),
 o0 156 (.pick (.t 152) (.t 155) (.c (.bool false))),
 o0 157 (.mv (.t 156)),
 o1 158 157 false (.mv (.t 18)),
 o1 159 157 false (.bin .eql (.t 158) (.c (.int .i64 0))),
 o1 160 157 false (.mv (.t 159)),
 o1 161 160 true (.mv (.t 3)),
 o1 162 160 true (.load (some 2) (.t 4)),
 o1 163 160 true (.load (some 2) (.t 17)),
 o1 164 160 true (.call .peek 603 [(.t 161),(.t 162),(.t 163)]),
 o1 165 160 true (.un .not (.t 164)),
 o1 166 157 false (.pick (.t 160) (.t 165) (.c (.bool false))),
 o0 167 (.pick (.t 157) (.c (.bool true)) (.t 166)),
 o0 2 (.mv (.t 167))]) .ret)))))))))))⟩
def x428L1 : XCode :=
 (.seq (.seq (.region [0, 1, 7, 8, 10, 11, 12, 13, 14, 46] [o0 43 (.mv (.t 14)),
 o0 44 (.mv (.t 0)),
 o0 45 (.len (.t 44)),
 o0 46 (.bin .lss (.t 43) (.t 45))]) (.cond (.t 46) .skip (.exit 0))) (.seq (.block 1 (.seq (.region [0, 1, 7, 8, 10, 11, 12, 13, 14] [o0 49 (.mv (.t 10)),
 o0 50 (.mv (.t 8)),
 o0 51 (.mv (.t 0)),
 o0 52 (.mv (.t 14)),
 o0 53 (.idxA 2 (.t 51) (.t 52)),
 o0 54 (.idxP 2 1 (.t 53) (.c (.int .i64 0))),
 o0 55 (.load none (.t 54)),
 o0 56 (.callT (.t 50) [.t 55] []),
 o0 57 (.mv (.t 0)),
 o0 58 (.mv (.t 14)),
 o0 59 (.idxA 2 (.t 57) (.t 58)),
 o0 60 (.idxP 2 1 (.t 59) (.c (.int .i64 1))),
 o0 61 (.loadI none (.t 60)),
 o0 62 (.call .view 437 [.t 61]),
 o0 63 (.buildSlice 2 [(.int .u8 0),(.int .i64 0)] 2 [(0, 2,(.t 56)),(2, 2,(.t 62))]),
 o0 64 (.append 2 16 (.t 49) (.t 63)),
 o0 10 (.mv (.t 64))]) (.region [0, 1, 7, 8, 10, 11, 12, 13, 14] [o0 65 (.mv (.t 13)),
 o0 66 (.mv (.t 0)),
 o0 67 (.mv (.t 14)),
 o0 68 (.idxA 2 (.t 66) (.t 67)),
 o0 69 (.idxP 2 1 (.t 68) (.c (.int .i64 0))),
 o0 70 (.load none (.t 69)),
 o0 71 (.mv (.t 0)),
 o0 72 (.mv (.t 14)),
 o0 73 (.idxA 2 (.t 71) (.t 72)),
 o0 74 (.idxP 2 1 (.t 73) (.c (.int .i64 1))),
 o0 75 (.load none (.t 74)),
 o0 76 (.callV (.t 65) [(.t 70),(.t 75)])]))) (.region [0, 1, 7, 8, 10, 11, 12, 13, 14] [o0 47 (.mv (.t 14)),
 o0 48 (.bin .add (.t 47) (.c (.int .i64 1))),
 o0 14 (.mv (.t 48))])))
def x428L2 : XCode :=
 (.seq (.seq (.region [1, 7, 8, 11, 12, 13, 15, 16, 17, 90] [o0 83 (.mv (.t 17)),
 o0 84 (.mv (.t 1)),
 o0 85 (.len (.t 84)),
 o0 86 (.bin .lss (.t 83) (.t 85)),
 o0 87 (.mv (.t 86)),
 o1 88 87 true (.mv (.t 16)),
 o1 89 87 true (.bin .eql (.t 88) (.c (.int .i64 0))),
 o0 90 (.pick (.t 87) (.t 89) (.c (.bool false)))]) (.cond (.t 90) .skip (.exit 2))) (.seq (.block 3 (.seq (.region [1, 7, 8, 11, 12, 13, 15, 16, 17] [o0 93 (.load none (.t 7)),
 o0 94 (.load (some 2) (.t 15)),
 o0 95 (.mv (.t 8)),
 o0 96 (.mv (.t 1)),
 o0 97 (.mv (.t 17)),
 o0 98 (.idxA 2 (.t 96) (.t 97)),
 o0 99 (.idxP 2 1 (.t 98) (.c (.int .i64 0))),
 o0 100 (.load none (.t 99)),
 o0 101 (.callT (.t 95) [.t 100] [(none,(.t 7)),(some 2,(.t 15))]),
 o0 102 (.mv (.t 1)),
 o0 103 (.mv (.t 17)),
 o0 104 (.idxA 2 (.t 102) (.t 103)),
 o0 105 (.idxP 2 1 (.t 104) (.c (.int .i64 1))),
 o0 106 (.loadI none (.t 105)),
 o0 107 (.call .view 437 [.t 106]),
 o0 108 (.call .share 602 [(.t 93),(.t 94),(.t 101),(.t 107)]),
 o0 16 (.mv (.t 108))]) (.region [1, 7, 8, 11, 12, 13, 15, 16, 17] [o0 109 (.mv (.t 13)),
 o0 110 (.mv (.t 1)),
 o0 111 (.mv (.t 17)),
 o0 112 (.idxA 2 (.t 110) (.t 111)),
 o0 113 (.idxP 2 1 (.t 112) (.c (.int .i64 0))),
 o0 114 (.load none (.t 113)),
 o0 115 (.mv (.t 1)),
 o0 116 (.mv (.t 17)),
 o0 117 (.idxA 2 (.t 115) (.t 116)),
 o0 118 (.idxP 2 1 (.t 117) (.c (.int .i64 1))),
 o0 119 (.load none (.t 118)),
 o0 120 (.callV (.t 109) [(.t 114),(.t 119)])]))) (.region [1, 7, 8, 11, 12, 13, 15, 16, 17] [o0 91 (.mv (.t 17)),
 o0 92 (.bin .add (.t 91) (.c (.int .i64 1))),
 o0 17 (.mv (.t 92))])))
def x428L3 : XCode :=
 (.seq (.seq (.region [7, 8, 11, 12, 15, 18, 20, 22, 158] [o0 156 (.mv (.t 22)),
 o0 157 (.mv (.t 20)),
 o0 158 (.bin .lss (.t 156) (.t 157))]) (.cond (.t 158) .skip (.exit 4))) (.seq (.block 5 (.seq (.region [7, 8, 11, 12, 15, 18, 20, 22, 23, 24] [o0 162 (.load none (.t 7)),
 o0 163 (.load (some 2) (.t 15)),
 o0 164 (.mv (.t 8)),
 o0 165 (.load none (.t 11)),
 o0 166 (.mv (.t 22)),
 o0 167 (.idxA 1 (.t 165) (.t 166)),
 o0 168 (.load none (.t 167)),
 o0 169 (.callT (.t 164) [.t 168] [(none,(.t 7)),(some 2,(.t 15))]),
 o0 170 (.call .touch 592 [(.t 162),(.t 163),(.t 169)]),
 o0 161 (.mv (.t 170)),
 o0 171 (.extract (.t 161) 0),
 o0 172 (.extract (.t 161) 1),
 o0 23 (.alloc [(.int .u8 0),(.int .i64 0)]),
 o2 (.store 2 (.t 23) (.t 171)),
 o0 24 (.mv (.t 172))]) (.seq (.region [7, 8, 11, 12, 15, 18, 20, 22, 209] [o0 173 (.mv (.t 24)),
 o0 174 (.bin .neq (.t 173) (.c (.int .i64 0))),
 o0 175 (.mv (.t 174)),
 o1 176 175 false (.load (some 2) (.t 23)),
 o1 177 175 false (.load none (.t 12)),
 o1 178 175 false (.mv (.t 22)),
 o1 179 175 false (.idxA 1 (.t 177) (.t 178)),
 o1 180 175 false (.load none (.t 179)),
 o1 181 175 false (.call .view 437 [.t 180]),
 o1 182 175 false (.eqCells true [0, 0] (.t 176) (.t 181)),
 o0 183 (.pick (.t 175) (.c (.bool true)) (.t 182)),
 o0 184 (.mv (.t 183)),
 o1 185 184 false (.mv (.t 18)),
 o1 186 184 false (.mv (.t 22)),
 o1 187 184 false (.bin .mul (.c (.int .i64 2)) (.t 186)),
 o1 188 184 false (.bin .add (.t 187) (.c (.int .i64 1))),
 o1 189 184 false (.idxA 2 (.t 185) (.t 188)),
 o1 190 184 false (.load (some 2) (.t 189)),
 o1 191 184 false (.load (some 2) (.t 23)),
 o1 192 184 false (.eqCells true [0, 0] (.t 190) (.t 191)),
 o0 193 (.pick (.t 184) (.c (.bool true)) (.t 192)),
 o0 194 (.mv (.t 193)),
 o1 195 194 false (.load none (.t 7)),
 o1 196 194 false (.mv (.t 18)),
 o1 197 194 false (.mv (.t 22)),
 o1 198 194 false (.bin .mul (.c (.int .i64 2)) (.t 197)),
 o1 199 194 false (.idxA 2 (.t 196) (.t 198)),
 o1 200 194 false (.load (some 2) (.t 199)),
 o1 201 194 false (.mv (.t 8)),
 o1 202 194 false (.load none (.t 11)),
 o1 203 194 false (.mv (.t 22)),
 o1 204 194 false (.idxA 1 (.t 202) (.t 203)),
 o1 205 194 false (.load none (.t 204)),
 o1 206 194 false (.callT (.t 201) [.t 205] [(none,(.t 7)),(some 2,(.t 199))]),
 o1 207 194 false (.call .peek 603 [(.t 195),(.t 200),(.t 206)]),
 o1 208 194 false (.un .not (.t 207)),
 o0 209 (.pick (.t 194) (.c (.bool true)) (.t 208))]) (.cond (.t 209) (.seq (.region [6] [o0 6 (.mv (.c (.bool false)))]) .ret) .skip)))) (.region [7, 8, 11, 12, 15, 18, 20, 22] [o0 159 (.mv (.t 22)),
 o0 160 (.bin .add (.t 159) (.c (.int .i64 1))),
 o0 22 (.mv (.t 160))])))
def x428 : XFun :=
 ⟨[.tmp 6],(.seq (.region [0, 1, 5] [o0 5 (.box 1 (.t 2)),
 o0 6 (.mv (.c (.bool false)))]) (.seq (.seq (.region [0, 1, 5, 37] [o0 26 (.call .view 434 []),
 o0 27 (.un .not (.t 26)),
 o0 28 (.mv (.t 27)),
 o1 29 28 false (.mv (.t 0)),
 o1 30 28 false (.len (.t 29)),
 o1 31 28 false (.bin .gtr (.t 30) (.c (.int .i64 60))),
 o0 32 (.pick (.t 28) (.c (.bool true)) (.t 31)),
 o0 33 (.mv (.t 32)),
 o1 34 33 false (.mv (.t 1)),
 o1 35 33 false (.len (.t 34)),
 o1 36 33 false (.bin .gtr (.t 35) (.c (.int .i64 100))),
 o0 37 (.pick (.t 33) (.c (.bool true)) (.t 36))]) (.cond (.t 37) (.seq (.region [6] [o0 38 (.call .view 434 []),
 o0 6 (.mv (.t 38))]) .ret) .skip)) (.seq (.region [0, 1, 5, 7] [o0 39 (.call .own 436 [(.c (.int .i64 40000))]),
 o0 7 (.alloc [(.pointer none)]),
 o2 (.store 1 (.t 7) (.t 39))]) (.seq (.region [0, 1, 5, 7, 8] [o0 40 (.mkClo 429 [(.t 5),(.t 7)]),
 o0 8 (.mv (.t 40))]) (.seq (.region [0, 1, 7, 8, 9] [o0 41 (.mkClo 430 [.t 5]),
 o0 9 (.alloc [.nilFunc]),
 o2 (.store 1 (.t 9) (.t 41))]) (.seq (.region [0, 1, 7, 8, 9, 10] [o0 10 (.mv (.c (.slice none 0 0)))]) (.seq (.region [0, 1, 7, 8, 9, 10, 11, 12] [o0 11 (.alloc [(.slice none 0 0)]),
 o0 12 (.alloc [(.slice none 0 0)])]) (.seq (.region [0, 1, 7, 8, 10, 11, 12, 13] [o0 42 (.mkClo 431 [(.t 11),(.t 9),(.t 12)]),
 o0 13 (.mv (.t 42))]) (.seq (.seq (.region [0, 1, 7, 8, 10, 11, 12, 13, 14] [o0 14 (.mv (.c (.int .i64 0)))]) (.block 0 (.loop [0, 1, 7, 8, 10, 11, 12, 13, 14] x428L1))) (.seq (.region [1, 7, 8, 11, 12, 13, 15, 16] [o0 78 (.load none (.t 7)),
 o0 79 (.mv (.t 10)),
 o0 80 (.call .share 598 [(.t 78),(.t 79)]),
 o0 77 (.mv (.t 80)),
 o0 81 (.extract (.t 77) 0),
 o0 82 (.extract (.t 77) 1),
 o0 15 (.alloc [(.int .u8 0),(.int .i64 0)]),
 o2 (.store 2 (.t 15) (.t 81)),
 o0 16 (.mv (.t 82))]) (.seq (.seq (.region [1, 7, 8, 11, 12, 13, 15, 16, 17] [o0 17 (.mv (.c (.int .i64 0)))]) (.block 2 (.loop [1, 7, 8, 11, 12, 13, 15, 16, 17] x428L2))) (.seq (.region [7, 8, 11, 12, 15, 16, 18, 19] [o0 122 (.load none (.t 7)),
 o0 123 (.load (some 2) (.t 15)),
 o0 124 (.call .look 593 [(.t 122),(.t 123)]),
 o0 121 (.mv (.t 124)),
 o0 125 (.extract (.t 121) 0),
 o0 126 (.extract (.t 121) 1),
 o0 18 (.mv (.t 125)),
 o0 19 (.mv (.t 126))]) (.seq (.region [7, 8, 11, 12, 15, 16, 18, 19, 20, 21] [o0 128 (.load none (.t 7)),
 o0 129 (.load (some 2) (.t 15)),
 o0 130 (.call .peek 594 [(.t 128),(.t 129)]),
 o0 127 (.mv (.t 130)),
 o0 131 (.extract (.t 127) 0),
 o0 132 (.extract (.t 127) 1),
 o0 20 (.mv (.t 131)),
 o0 21 (.mv (.t 132))]) (.seq (.seq (.region [7, 8, 11, 12, 15, 18, 20, 155] [o0 133 (.mv (.t 16)),
 o0 134 (.bin .neq (.t 133) (.c (.int .i64 0))),
 o0 135 (.mv (.t 134)),
 o1 136 135 false (.mv (.t 19)),
 o1 137 135 false (.bin .neq (.t 136) (.c (.int .i64 0))),
 o0 138 (.pick (.t 135) (.c (.bool true)) (.t 137)),
 o0 139 (.mv (.t 138)),
 o1 140 139 false (.mv (.t 21)),
 o1 141 139 false (.bin .neq (.t 140) (.c (.int .i64 0))),
 o0 142 (.pick (.t 139) (.c (.bool true)) (.t 141)),
 o0 143 (.mv (.t 142)),
 o1 144 143 false (.mv (.t 20)),
 o1 145 143 false (.load none (.t 11)),
 o1 146 143 false (.len (.t 145)),
 o1 147 143 false (.bin .neq (.t 144) (.t 146)),
 o0 148 (.pick (.t 143) (.c (.bool true)) (.t 147)),
 o0 149 (.mv (.t 148)),
 o1 150 149 false (.mv (.t 18)),
 o1 151 149 false (.len (.t 150)),
 o1 152 149 false (.mv (.t 20)),
 o1 153 149 false (.bin .mul (.c (.int .i64 2)) (.t 152)),
 o1 154 149 false (.bin .neq (.t 151) (.t 153)),
 o0 155 (.pick (.t 149) (.c (.bool true)) (.t 154))]) (.cond (.t 155) (.seq (.region [6] [o0 6 (.mv (.c (.bool false)))]) .ret) .skip)) (.seq (.seq (.region [7, 8, 11, 12, 15, 18, 20, 22] [o0 22 (.mv (.c (.int .i64 0)))]) (.block 4 (.loop [7, 8, 11, 12, 15, 18, 20, 22] x428L3))) (.seq (.region [16, 25] [o0 211 (.load none (.t 7)),
 o0 212 (.load (some 2) (.t 15)),
 o0 213 (.build [(.int .u8 0),(.int .i64 0)] [(0, 1,(.c (.int .u8 1))),(1, 1,(.c (.int .i64 1)))]),
 o0 214 (.call .touch 592 [(.t 211),(.t 212),(.t 213)]),
 o0 210 (.mv (.t 214)),
 o0 215 (.extract (.t 210) 0),
 o0 216 (.extract (.t 210) 1),
 o0 25 (.alloc [(.int .u8 0),(.int .i64 0)]),
 o2 (.store 2 (.t 25) (.t 215)),
 o0 16 (.mv (.t 216))]) (.seq (.region [6] [o0 217 (.mv (.t 16)),
 o0 218 (.bin .eql (.t 217) (.c (.int .i64 0))),
 o0 219 (.mv (.t 218)),
 o1 220 219 true (.load (some 2) (.t 25)),
 o1 221 219 true (.build [(.int .u8 0),(.int .i64 0)] []),
 o1 222 219 true (.eqCells false [0, 0] (.t 220) (.t 221)),
 o0 223 (.pick (.t 219) (.t 222) (.c (.bool false))),
 o0 6 (.mv (.t 223))]) .ret)))))))))))))))))⟩
def x436 : XFun :=
 ⟨[.tmp 2],(.seq (.region [0] [o0 2 (.mv (.c (.pointer none)))]) (.seq (.region [3] [o0 6 (.mv (.t 0)),
 o0 7 (.call .own 567 [.t 6]),
 o0 5 (.mv (.t 7)),
 o0 8 (.extract (.t 5) 0),
 o0 9 (.extract (.t 5) 1),
 o0 3 (.mv (.t 8)),
 o0 4 (.mv (.t 9))]) (.seq (.region [2] [o0 10 (.mv (.t 3)),
 o0 2 (.mv (.t 10))]) .ret)))⟩
def x599L1 : XCode :=
 (.seq (.seq (.region [1, 4, 6, 7, 8, 9, 10, 56] [o0 54 (.mv (.t 10)),
 o0 55 (.mv (.t 8)),
 o0 56 (.bin .geq (.t 54) (.t 55))]) (.cond (.t 56) .skip (.exit 3))) (.seq (.block 4 (.region [1, 4, 6, 7, 8, 9, 10] [o0 59 (.mv (.t 9)),
 o0 60 (.bin .shl (.t 59) (.c (.int .u64 8))),
 o0 61 (.mv (.t 1)),
 o0 62 (.mv (.t 10)),
 o0 63 (.idxS (.t 61) (.t 62)),
 o0 64 (.conv .u64 (.t 63)),
 o0 65 (.bin .or (.t 60) (.t 64)),
 o0 9 (.mv (.t 65))])) (.region [1, 4, 6, 7, 8, 9, 10] [o0 57 (.mv (.t 10)),
 o0 58 (.bin .sub (.t 57) (.c (.int .i64 1))),
 o0 10 (.mv (.t 58))])))
def x599L2 : XCode :=
 (.seq (.seq (.region [1, 4, 6, 7, 8, 45] [o0 42 (.mv (.t 8)),
 o0 43 (.mv (.t 1)),
 o0 44 (.lenS (.t 43)),
 o0 45 (.bin .lss (.t 42) (.t 44))]) (.cond (.t 45) .skip (.exit 1))) (.seq (.block 2 (.seq (.region [1, 4, 6, 7, 8, 9] [o0 9 (.mv (.c (.int .u64 0)))]) (.seq (.seq (.region [1, 4, 6, 7, 8, 9, 10] [o0 48 (.mv (.t 8)),
 o0 49 (.bin .add (.t 48) (.c (.int .i64 8))),
 o0 50 (.mv (.t 1)),
 o0 51 (.lenS (.t 50)),
 o0 52 (.minmax true (.t 49) (.t 51)),
 o0 53 (.bin .sub (.t 52) (.c (.int .i64 1))),
 o0 10 (.mv (.t 53))]) (.block 3 (.loop [1, 4, 6, 7, 8, 9, 10] x599L1))) (.region [1, 4, 6, 7, 8] [o0 66 (.fieldA 0 (.t 6)),
 o0 67 (.load none (.t 66)),
 o0 68 (.fieldA 1 (.t 6)),
 o0 69 (.load none (.t 68)),
 o0 70 (.mv (.t 8)),
 o0 71 (.bin .quo (.t 70) (.c (.int .i64 8))),
 o0 72 (.bin .add (.c (.int .i64 1)) (.t 71)),
 o0 73 (.mv (.t 9)),
 o0 74 (.call .share 178 [(.t 67),(.t 69),(.t 72),(.t 73)])])))) (.region [1, 4, 6, 7, 8] [o0 46 (.mv (.t 8)),
 o0 47 (.bin .add (.t 46) (.c (.int .i64 8))),
 o0 8 (.mv (.t 47))])))
def x599 : XFun :=
 ⟨[.cell 4 (some 2),.tmp 5],(.seq (.region [0, 1, 4] [o0 4 (.alloc [(.int .u8 0),(.int .i64 0)]),
 o0 5 (.mv (.c (.int .i64 0)))]) (.seq (.block 0 (.seq (.region [0, 1, 4, 11] [o0 12 (.mv (.t 0)),
 o0 13 (.call .peek 611 [.t 12]),
 o0 11 (.mv (.t 13))]) (.cond (.t 11) (.seq (.region [4, 5] [o0 14 (.build [(.int .u8 0),(.int .i64 0)] []),
 o2 (.store 2 (.t 4) (.t 14)),
 o0 5 (.mv (.c (.int .i64 2)))]) .ret) (.seq (.region [0, 1, 4, 15] [o0 16 (.mv (.t 1)),
 o0 17 (.lenS (.t 16)),
 o0 18 (.bin .gtr (.t 17) (.c (.int .i64 4096))),
 o0 15 (.mv (.t 18))]) (.cond (.t 15) (.seq (.region [4, 5] [o0 19 (.build [(.int .u8 0),(.int .i64 0)] []),
 o2 (.store 2 (.t 4) (.t 19)),
 o0 5 (.mv (.c (.int .i64 3)))]) .ret) .skip))))) (.seq (.region [1, 4, 6, 7] [o0 21 (.mv (.t 0)),
 o0 22 (.mv (.t 1)),
 o0 23 (.lenS (.t 22)),
 o0 24 (.bin .add (.t 23) (.c (.int .i64 7))),
 o0 25 (.bin .quo (.t 24) (.c (.int .i64 8))),
 o0 26 (.bin .add (.c (.int .i64 1)) (.t 25)),
 o0 27 (.call .share 615 [(.t 21),(.c (.int .u8 3)),(.t 26)]),
 o0 20 (.mv (.t 27)),
 o0 28 (.extract (.t 20) 0),
 o0 29 (.extract (.t 20) 1),
 o0 6 (.alloc [(.pointer none),(.int .i64 0),(.int .u8 0)]),
 o2 (.store 3 (.t 6) (.t 28)),
 o0 7 (.mv (.t 29))]) (.seq (.seq (.region [1, 4, 6, 7, 31] [o0 30 (.mv (.t 7)),
 o0 31 (.bin .neq (.t 30) (.c (.int .i64 0)))]) (.cond (.t 31) (.seq (.region [4, 5] [o0 32 (.build [(.int .u8 0),(.int .i64 0)] []),
 o0 33 (.mv (.t 7)),
 o2 (.store 2 (.t 4) (.t 32)),
 o0 5 (.mv (.t 33))]) .ret) .skip)) (.seq (.region [1, 4, 6, 7] [o0 34 (.fieldA 0 (.t 6)),
 o0 35 (.load none (.t 34)),
 o0 36 (.fieldA 1 (.t 6)),
 o0 37 (.load none (.t 36)),
 o0 38 (.mv (.t 1)),
 o0 39 (.lenS (.t 38)),
 o0 40 (.conv .u64 (.t 39)),
 o0 41 (.call .share 178 [(.t 35),(.t 37),(.c (.int .i64 0)),(.t 40)])]) (.seq (.seq (.region [1, 4, 6, 7, 8] [o0 8 (.mv (.c (.int .i64 0)))]) (.block 1 (.loop [1, 4, 6, 7, 8] x599L2))) (.seq (.region [4, 5] [o0 75 (.load (some 3) (.t 6)),
 o0 76 (.mv (.t 7)),
 o0 77 (.call .peek 618 [(.t 75),(.t 76)]),
 o0 78 (.extract (.t 77) 0),
 o0 79 (.extract (.t 77) 1),
 o2 (.store 2 (.t 4) (.t 78)),
 o0 5 (.mv (.t 79))]) .ret)))))))⟩
def x434 : XFun :=
 ⟨[.tmp 0],(.seq (.region [] [o0 0 (.mv (.c (.bool false)))]) (.seq (.region [1] [o0 17 (.call .own 567 [(.c (.int .i64 60))]),
 o0 16 (.mv (.t 17)),
 o0 18 (.extract (.t 16) 0),
 o0 19 (.extract (.t 16) 1),
 o0 1 (.mv (.t 18)),
 o0 2 (.mv (.t 19))]) (.seq (.region [1, 3, 4] [o0 21 (.mv (.t 1)),
 o0 22 (.call .share 599 [(.t 21),(.c (.string ⟨#[104, 101, 108, 108, 111, 44, 32, 121, 111, 117]⟩))]),
 o0 20 (.mv (.t 22)),
 o0 23 (.extract (.t 20) 0),
 o0 24 (.extract (.t 20) 1),
 o0 3 (.alloc [(.int .u8 0),(.int .i64 0)]),
 o2 (.store 2 (.t 3) (.t 23)),
 o0 4 (.mv (.t 24))]) (.seq (.region [1, 3, 4, 5, 6] [o0 26 (.mv (.t 1)),
 o0 27 (.call .view 437 [(.c (.int .i64 1))]),
 o0 28 (.load (some 2) (.t 3)),
 o0 29 (.buildSlice 2 [(.int .u8 0),(.int .i64 0)] 2 [(0, 2,(.t 27)),(2, 2,(.t 28))]),
 o0 30 (.call .touch 597 [(.t 26),(.t 29)]),
 o0 25 (.mv (.t 30)),
 o0 31 (.extract (.t 25) 0),
 o0 32 (.extract (.t 25) 1),
 o0 5 (.alloc [(.int .u8 0),(.int .i64 0)]),
 o2 (.store 2 (.t 5) (.t 31)),
 o0 6 (.mv (.t 32))]) (.seq (.region [1, 3, 4, 5, 6, 7, 8] [o0 34 (.mv (.t 1)),
 o0 35 (.call .view 437 [(.c (.int .i64 1))]),
 o0 36 (.call .view 437 [(.c (.int .i64 2))]),
 o0 37 (.call .view 437 [(.c (.int .i64 1))]),
 o0 38 (.call .view 437 [(.c (.int .i64 3))]),
 o0 39 (.buildSlice 2 [(.int .u8 0),(.int .i64 0)] 4 [(0, 2,(.t 35)),(2, 2,(.t 36)),(4, 2,(.t 37)),(6, 2,(.t 38))]),
 o0 40 (.call .share 598 [(.t 34),(.t 39)]),
 o0 33 (.mv (.t 40)),
 o0 41 (.extract (.t 33) 0),
 o0 42 (.extract (.t 33) 1),
 o0 7 (.alloc [(.int .u8 0),(.int .i64 0)]),
 o2 (.store 2 (.t 7) (.t 41)),
 o0 8 (.mv (.t 42))]) (.seq (.region [1, 3, 4, 5, 6, 7, 8, 9, 10] [o0 44 (.mv (.t 1)),
 o0 45 (.load (some 2) (.t 3)),
 o0 46 (.call .peek 605 [(.t 44),(.t 45)]),
 o0 43 (.mv (.t 46)),
 o0 47 (.extract (.t 43) 0),
 o0 48 (.extract (.t 43) 1),
 o0 9 (.mv (.t 47)),
 o0 10 (.mv (.t 48))]) (.seq (.region [1, 3, 4, 5, 6, 7, 8, 9, 10, 11, 12] [o0 50 (.mv (.t 1)),
 o0 51 (.load (some 2) (.t 7)),
 o0 52 (.call .view 437 [(.c (.int .i64 1))]),
 o0 53 (.call .touch 592 [(.t 50),(.t 51),(.t 52)]),
 o0 49 (.mv (.t 53)),
 o0 54 (.extract (.t 49) 0),
 o0 55 (.extract (.t 49) 1),
 o0 11 (.alloc [(.int .u8 0),(.int .i64 0)]),
 o2 (.store 2 (.t 11) (.t 54)),
 o0 12 (.mv (.t 55))]) (.seq (.region [1, 3, 4, 5, 6, 7, 8, 9, 10, 11, 12, 14] [o0 57 (.mv (.t 1)),
 o0 58 (.load (some 2) (.t 5)),
 o0 59 (.call .view 437 [(.c (.int .i64 2))]),
 o0 60 (.call .touch 592 [(.t 57),(.t 58),(.t 59)]),
 o0 56 (.mv (.t 60)),
 o0 61 (.extract (.t 56) 0),
 o0 62 (.extract (.t 56) 1),
 o0 13 (.alloc [(.int .u8 0),(.int .i64 0)]),
 o2 (.store 2 (.t 13) (.t 61)),
 o0 14 (.mv (.t 62))]) (.seq (.region [1, 3, 4, 5, 6, 7, 8, 9, 10, 11, 12, 14, 15] [o0 63 (.mv (.t 1)),
 o0 64 (.load (some 2) (.t 5)),
 o0 65 (.call .view 437 [(.c (.int .i64 2))]),
 o0 66 (.call .view 437 [(.c (.int .i64 9))]),
 o0 67 (.call .share 602 [(.t 63),(.t 64),(.t 65),(.t 66)]),
 o0 15 (.mv (.t 67))]) (.seq (.region [0] [o0 68 (.mv (.t 4)),
 o0 69 (.bin .eql (.t 68) (.c (.int .i64 0))),
 o0 70 (.mv (.t 69)),
 o1 71 70 true (.mv (.t 6)),
 o1 72 70 true (.bin .eql (.t 71) (.c (.int .i64 0))),
 o0 73 (.pick (.t 70) (.t 72) (.c (.bool false))),
 o0 74 (.mv (.t 73)),
 o1 75 74 true (.mv (.t 8)),
 o1 76 74 true (.bin .eql (.t 75) (.c (.int .i64 0))),
 o0 77 (.pick (.t 74) (.t 76) (.c (.bool false))),
 o0 78 (.mv (.t 77)),
 o1 79 78 true (.mv (.t 10)),
 o1 80 78 true (.bin .eql (.t 79) (.c (.int .i64 0))),
 o0 81 (.pick (.t 78) (.t 80) (.c (.bool false))),
 o0 82 (.mv (.t 81)),
 o1 83 82 true (.mv (.t 12)),
 o1 84 82 true (.bin .eql (.t 83) (.c (.int .i64 0))),
 o0 85 (.pick (.t 82) (.t 84) (.c (.bool false))),
 o0 86 (.mv (.t 85)),
 o1 87 86 true (.mv (.t 14)),
 o1 88 86 true (.bin .eql (.t 87) (.c (.int .i64 1))),
 o0 89 (.pick (.t 86) (.t 88) (.c (.bool false))),
 o0 90 (.mv (.t 89)),
 o1 91 90 true (.mv (.t 15)),
 o1 92 90 true (.bin .eql (.t 91) (.c (.int .i64 0))),
 o0 93 (.pick (.t 90) (.t 92) (.c (.bool false))),
 o0 94 (.mv (.t 93)),
 o1 95 94 true (.fieldA 1 (.t 3)),
 o1 96 94 true (.load none (.t 95)),
 o1 97 94 true (.bin .eql (.t 96) (.c (.int .i64 0))),
 o0 98 (.pick (.t 94) (.t 97) (.c (.bool false))),
 o0 99 (.mv (.t 98)),
 o1 100 99 true (.fieldA 1 (.t 5)),
 o1 101 99 true (.load none (.t 100)),
 o1 102 99 true (.bin .eql (.t 101) (.c (.int .i64 4))),
 o0 103 (.pick (.t 99) (.t 102) (.c (.bool false))),
 o0 104 (.mv (.t 103)),
 o1 105 104 true (.fieldA 1 (.t 7)),
 o1 106 104 true (.load none (.t 105)),
 o1 107 104 true (.bin .eql (.t 106) (.c (.int .i64 12))),
 o0 108 (.pick (.t 104) (.t 107) (.c (.bool false))),
 o0 109 (.mv (.t 108)),
 o1 110 109 true (.mv (.t 9)),
 o1 111 109 true (.bin .eql (.t 110) (.c (.string ⟨#[104, 101, 108, 108, 111, 44, 32, 121, 111, 117]⟩))),
 o0 112 (.pick (.t 109) (.t 111) (.c (.bool false))),
 o0 113 (.mv (.t 112)),
 o1 114 113 true (.fieldA 1 (.t 11)),
 o1 115 113 true (.load none (.t 114)),
 o1 116 113 true (.bin .eql (.t 115) (.c (.int .i64 3))),
 o0 117 (.pick (.t 113) (.t 116) (.c (.bool false))),
 o0 118 (.mv (.t 117)),
 o1 119 118 true (.mv (.t 1)),
 o1 120 118 true (.call .peek 176 [.t 119]),
 o1 121 118 true (.bin .eql (.t 120) (.c (.int .i64 33))),
 o0 122 (.pick (.t 118) (.t 121) (.c (.bool false))),
 o0 0 (.mv (.t 122))]) .ret))))))))))⟩
def x605 : XFun :=
 ⟨[.tmp 4,.tmp 5],(.seq (.region [0, 3] [o0 3 (.box 2 (.t 1)),
 o0 4 (.mv (.c (.string .empty))),
 o0 5 (.mv (.c (.int .i64 0)))]) (.seq (.region [6, 7] [o0 9 (.mv (.t 0)),
 o0 10 (.load (some 2) (.t 3)),
 o0 11 (.buildSlice 1 [(.int .u8 0)] 1 [(0, 1,(.c (.int .u8 3)))]),
 o0 12 (.call .share 610 [(.t 9),(.t 10),(.t 11)]),
 o0 8 (.mv (.t 12)),
 o0 13 (.extract (.t 8) 0),
 o0 14 (.extract (.t 8) 1),
 o0 6 (.alloc [(.pointer none),(.int .i64 0),(.int .u8 0)]),
 o2 (.store 3 (.t 6) (.t 13)),
 o0 7 (.mv (.t 14))]) (.seq (.seq (.region [6, 7, 16] [o0 15 (.mv (.t 7)),
 o0 16 (.bin .neq (.t 15) (.c (.int .i64 0)))]) (.cond (.t 16) (.seq (.region [4, 5] [o0 17 (.mv (.t 7)),
 o0 4 (.mv (.c (.string .empty))),
 o0 5 (.mv (.t 17))]) .ret) .skip)) (.seq (.region [4, 5] [o0 18 (.load (some 3) (.t 6)),
 o0 19 (.call .peek 282 [.t 18]),
 o0 4 (.mv (.t 19)),
 o0 5 (.mv (.c (.int .i64 0)))]) .ret))))⟩
def x594 : XFun :=
 ⟨[.tmp 4,.tmp 5],(.seq (.region [0, 3] [o0 3 (.box 2 (.t 1)),
 o0 4 (.mv (.c (.int .i64 0))),
 o0 5 (.mv (.c (.int .i64 0)))]) (.seq (.region [6, 7] [o0 10 (.mv (.t 0)),
 o0 11 (.load (some 2) (.t 3)),
 o0 12 (.buildSlice 1 [(.int .u8 0)] 3 [(0, 1,(.c (.int .u8 3))),(1, 1,(.c (.int .u8 4))),(2, 1,(.c (.int .u8 5)))]),
 o0 13 (.call .share 610 [(.t 10),(.t 11),(.t 12)]),
 o0 9 (.mv (.t 13)),
 o0 14 (.extract (.t 9) 0),
 o0 15 (.extract (.t 9) 1),
 o0 6 (.alloc [(.pointer none),(.int .i64 0),(.int .u8 0)]),
 o2 (.store 3 (.t 6) (.t 14)),
 o0 7 (.mv (.t 15))]) (.seq (.seq (.region [6, 7, 17] [o0 16 (.mv (.t 7)),
 o0 17 (.bin .neq (.t 16) (.c (.int .i64 0)))]) (.cond (.t 17) (.seq (.region [4, 5] [o0 18 (.mv (.t 7)),
 o0 4 (.mv (.c (.int .i64 0))),
 o0 5 (.mv (.t 18))]) .ret) .skip)) (.seq (.region [6, 8] [o0 19 (.load (some 3) (.t 6)),
 o0 20 (.call .peek 286 [(.t 19),(.c (.int .i64 0))]),
 o0 21 (.conv .i64 (.t 20)),
 o0 8 (.mv (.t 21))]) (.seq (.seq (.region [8, 24] [o0 22 (.fieldA 2 (.t 6)),
 o0 23 (.load none (.t 22)),
 o0 24 (.bin .eql (.t 23) (.c (.int .u8 5)))]) (.cond (.t 24) (.region [8] [o0 25 (.mv (.t 8)),
 o0 26 (.bin .quo (.t 25) (.c (.int .i64 2))),
 o0 8 (.mv (.t 26))]) .skip)) (.seq (.region [4, 5] [o0 27 (.mv (.t 8)),
 o0 4 (.mv (.t 27)),
 o0 5 (.mv (.c (.int .i64 0)))]) .ret))))))⟩
def x603 : XFun :=
 ⟨[.tmp 6],(.seq (.region [0, 4, 5] [o0 4 (.box 2 (.t 1)),
 o0 5 (.box 2 (.t 2)),
 o0 6 (.mv (.c (.bool false)))]) (.seq (.region [6] [o0 7 (.mv (.t 0)),
 o0 8 (.call .peek 611 [.t 7]),
 o0 9 (.un .not (.t 8)),
 o0 10 (.mv (.t 9)),
 o1 11 10 true (.fieldA 0 (.t 4)),
 o1 12 10 true (.load none (.t 11)),
 o1 13 10 true (.fieldA 0 (.t 5)),
 o1 14 10 true (.load none (.t 13)),
 o1 15 10 true (.bin .eql (.t 12) (.t 14)),
 o0 16 (.pick (.t 10) (.t 15) (.c (.bool false))),
 o0 17 (.mv (.t 16)),
 o1 18 17 true (.load (some 2) (.t 4)),
 o1 19 17 true (.load (some 2) (.t 5)),
 o1 20 17 true (.eqCells false [0, 0] (.t 18) (.t 19)),
 o1 21 17 true (.mv (.t 20)),
 o1 22 21 false (.mv (.t 0)),
 o1 23 21 false (.load (some 2) (.t 4)),
 o1 24 21 false (.call .peek 616 [(.t 22),(.t 23)]),
 o1 25 21 false (.mv (.t 0)),
 o1 26 21 false (.load (some 2) (.t 5)),
 o1 27 21 false (.call .peek 616 [(.t 25),(.t 26)]),
 o1 28 21 false (.eqCells false [0, 0, 2] (.t 24) (.t 27)),
 o1 29 17 true (.pick (.t 21) (.c (.bool true)) (.t 28)),
 o0 30 (.pick (.t 17) (.t 29) (.c (.bool false))),
 o0 6 (.mv (.t 30))]) .ret))⟩
def x592 : XFun :=
 ⟨[.cell 6 (some 2),.tmp 7],(.seq (.region [0, 4, 5, 6] [o0 4 (.box 2 (.t 1)),
 o0 5 (.box 2 (.t 2)),
 o0 6 (.alloc [(.int .u8 0),(.int .i64 0)]),
 o0 7 (.mv (.c (.int .i64 0)))]) (.seq (.region [0, 5, 6, 8, 9] [o0 14 (.mv (.t 0)),
 o0 15 (.load (some 2) (.t 4)),
 o0 16 (.buildSlice 1 [(.int .u8 0)] 3 [(0, 1,(.c (.int .u8 3))),(1, 1,(.c (.int .u8 4))),(2, 1,(.c (.int .u8 5)))]),
 o0 17 (.call .share 610 [(.t 14),(.t 15),(.t 16)]),
 o0 13 (.mv (.t 17)),
 o0 18 (.extract (.t 13) 0),
 o0 19 (.extract (.t 13) 1),
 o0 8 (.alloc [(.pointer none),(.int .i64 0),(.int .u8 0)]),
 o2 (.store 3 (.t 8) (.t 18)),
 o0 9 (.mv (.t 19))]) (.seq (.seq (.region [0, 5, 6, 8, 9, 21] [o0 20 (.mv (.t 9)),
 o0 21 (.bin .neq (.t 20) (.c (.int .i64 0)))]) (.cond (.t 21) (.seq (.region [6, 7] [o0 22 (.build [(.int .u8 0),(.int .i64 0)] []),
 o0 23 (.mv (.t 9)),
 o2 (.store 2 (.t 6) (.t 22)),
 o0 7 (.mv (.t 23))]) .ret) .skip)) (.seq (.region [0, 5, 6, 8, 10] [o0 25 (.load (some 3) (.t 8)),
 o0 26 (.call .share 276 [.t 25]),
 o0 24 (.mv (.t 26)),
 o0 27 (.extract (.t 24) 0),
 o0 28 (.extract (.t 24) 1),
 o0 10 (.alloc [(.pointer none),(.int .i64 0),(.int .u8 0)]),
 o2 (.store 3 (.t 10) (.t 27)),
 o0 11 (.mv (.t 28))]) (.seq (.block 0 (.seq (.region [0, 5, 6, 8, 10, 29] [o0 30 (.fieldA 2 (.t 8)),
 o0 31 (.load none (.t 30)),
 o0 32 (.bin .eql (.t 31) (.c (.int .u8 5))),
 o0 29 (.mv (.t 32))]) (.cond (.t 29) (.seq (.region [6, 10, 12] [o0 33 (.load (some 3) (.t 8)),
 o0 34 (.load (some 2) (.t 5)),
 o0 35 (.call .peek 274 [(.t 33),(.t 34)]),
 o0 12 (.mv (.t 35))]) (.seq (.seq (.region [6, 10, 12, 37] [o0 36 (.mv (.t 12)),
 o0 37 (.bin .lss (.t 36) (.c (.int .i64 0)))]) (.cond (.t 37) (.seq (.region [6, 7] [o0 38 (.build [(.int .u8 0),(.int .i64 0)] []),
 o2 (.store 2 (.t 6) (.t 38)),
 o0 7 (.mv (.c (.int .i64 0)))]) .ret) .skip)) (.seq (.region [6, 7] [o0 39 (.load (some 3) (.t 10)),
 o0 40 (.mv (.t 12)),
 o0 41 (.bin .mul (.c (.int .i64 2)) (.t 40)),
 o0 42 (.call .peek 283 [(.t 39),(.t 41)]),
 o2 (.store 2 (.t 6) (.t 42)),
 o0 7 (.mv (.c (.int .i64 0)))]) .ret))) (.seq (.region [0, 5, 6, 8, 10, 43] [o0 44 (.fieldA 0 (.t 5)),
 o0 45 (.load none (.t 44)),
 o0 46 (.bin .neq (.t 45) (.c (.int .u8 2))),
 o0 43 (.mv (.t 46))]) (.cond (.t 43) (.seq (.region [6, 7] [o0 47 (.build [(.int .u8 0),(.int .i64 0)] []),
 o2 (.store 2 (.t 6) (.t 47)),
 o0 7 (.mv (.c (.int .i64 9)))]) .ret) (.seq (.region [0, 5, 6, 8, 10, 48] [o0 49 (.fieldA 1 (.t 5)),
 o0 50 (.load none (.t 49)),
 o0 51 (.bin .lss (.t 50) (.c (.int .i64 0))),
 o0 52 (.mv (.t 51)),
 o1 53 52 false (.fieldA 1 (.t 5)),
 o1 54 52 false (.load none (.t 53)),
 o1 55 52 false (.load (some 3) (.t 8)),
 o1 56 52 false (.call .peek 286 [(.t 55),(.c (.int .i64 0))]),
 o1 57 52 false (.conv .i64 (.t 56)),
 o1 58 52 false (.bin .geq (.t 54) (.t 57)),
 o0 59 (.pick (.t 52) (.c (.bool true)) (.t 58)),
 o0 48 (.mv (.t 59))]) (.cond (.t 48) (.seq (.region [6, 7] [o0 60 (.build [(.int .u8 0),(.int .i64 0)] []),
 o2 (.store 2 (.t 6) (.t 60)),
 o0 7 (.mv (.c (.int .i64 1)))]) .ret) (.seq (.region [0, 5, 6, 8, 10, 61] [o0 62 (.fieldA 2 (.t 8)),
 o0 63 (.load none (.t 62)),
 o0 64 (.bin .eql (.t 63) (.c (.int .u8 3))),
 o0 61 (.mv (.t 64))]) (.cond (.t 61) (.seq (.region [6, 7] [o0 65 (.mv (.t 0)),
 o0 66 (.load (some 3) (.t 8)),
 o0 67 (.call .peek 282 [.t 66]),
 o0 68 (.fieldA 1 (.t 5)),
 o0 69 (.load none (.t 68)),
 o0 70 (.fieldA 1 (.t 5)),
 o0 71 (.load none (.t 70)),
 o0 72 (.bin .add (.t 71) (.c (.int .i64 1))),
 o0 73 (.sliceS (.t 67) (some (.t 69)) (some (.t 72))),
 o0 74 (.call .touch 599 [(.t 65),(.t 73)]),
 o0 75 (.extract (.t 74) 0),
 o0 76 (.extract (.t 74) 1),
 o2 (.store 2 (.t 6) (.t 75)),
 o0 7 (.mv (.t 76))]) .ret) .skip))))))))) (.seq (.region [6, 7] [o0 77 (.load (some 3) (.t 10)),
 o0 78 (.fieldA 1 (.t 5)),
 o0 79 (.load none (.t 78)),
 o0 80 (.bin .mul (.c (.int .i64 2)) (.t 79)),
 o0 81 (.call .peek 283 [(.t 77),(.t 80)]),
 o2 (.store 2 (.t 6) (.t 81)),
 o0 7 (.mv (.c (.int .i64 0)))]) .ret))))))⟩
def x437 : XFun :=
 ⟨[.cell 2 (some 2)],(.seq (.region [0, 2] [o0 2 (.alloc [(.int .u8 0),(.int .i64 0)])]) (.seq (.region [2] [o0 3 (.mv (.t 0)),
 o0 4 (.build [(.int .u8 0),(.int .i64 0)] [(0, 1,(.c (.int .u8 2))),(1, 1,(.t 3))]),
 o2 (.store 2 (.t 2) (.t 4))]) .ret))⟩
def x429 : XFun :=
 ⟨[.cell 4 (some 2)],(.seq (.region [0, 1, 2, 4] [o0 4 (.alloc [(.int .u8 0),(.int .i64 0)])]) (.seq (.seq (.region [0, 2, 4, 7] [o0 7 (.load none (.t 1))]) (.cond (.t 7) (.seq (.region [4, 5] [o0 9 (.load none (.t 2)),
 o0 10 (.mv (.t 0)),
 o0 11 (.conv .u8 (.t 10)),
 o0 12 (.buildSlice 1 [(.int .u8 0)] 2 [(0, 1,(.t 11)),(1, 1,(.c (.int .u8 107)))]),
 o0 13 (.strOf (.t 12)),
 o0 14 (.call .share 599 [(.t 9),(.t 13)]),
 o0 8 (.mv (.t 14)),
 o0 15 (.extract (.t 8) 0),
 o0 16 (.extract (.t 8) 1),
 o0 5 (.alloc [(.int .u8 0),(.int .i64 0)]),
 o2 (.store 2 (.t 5) (.t 15)),
 o0 6 (.mv (.t 16))]) (.seq (.region [4] [o0 17 (.load (some 2) (.t 5)),
 o2 (.store 2 (.t 4) (.t 17))]) .ret)) .skip)) (.seq (.region [4] [o0 18 (.mv (.t 0)),
 o0 19 (.bin .rem (.t 18) (.c (.int .i64 64))),
 o0 20 (.call .view 437 [.t 19]),
 o2 (.store 2 (.t 4) (.t 20))]) .ret)))⟩
def x430 : XFun :=
 ⟨[.tmp 3],(.seq (.region [0, 1] [o0 3 (.mv (.c (.int .i64 0)))]) (.seq (.seq (.region [0, 4] [o0 4 (.load none (.t 1))]) (.cond (.t 4) (.seq (.region [3] [o0 5 (.mv (.t 0)),
 o0 6 (.conv .u8 (.t 5)),
 o0 7 (.conv .i64 (.t 6)),
 o0 3 (.mv (.t 7))]) .ret) .skip)) (.seq (.region [3] [o0 8 (.mv (.t 0)),
 o0 9 (.bin .rem (.t 8) (.c (.int .i64 64))),
 o0 3 (.mv (.t 9))]) .ret)))⟩
def x431L1 : XCode :=
 (.seq (.seq (.region [0, 1, 2, 3, 4, 7, 11] [o0 8 (.mv (.t 7)),
 o0 9 (.load none (.t 2)),
 o0 10 (.len (.t 9)),
 o0 11 (.bin .lss (.t 8) (.t 10))]) (.cond (.t 11) .skip (.exit 0))) (.seq (.block 1 (.seq (.region [0, 1, 2, 3, 4, 7, 21] [o0 14 (.load none (.t 2)),
 o0 15 (.mv (.t 7)),
 o0 16 (.idxA 1 (.t 14) (.t 15)),
 o0 17 (.load none (.t 16)),
 o0 18 (.load none (.t 3)),
 o0 19 (.mv (.t 0)),
 o0 20 (.callP (.t 18) [.t 19]),
 o0 21 (.bin .eql (.t 17) (.t 20))]) (.cond (.t 21) (.seq (.region [] [o0 22 (.load none (.t 4)),
 o0 23 (.mv (.t 7)),
 o0 24 (.mv (.t 1)),
 o0 25 (.idxA 1 (.t 22) (.t 23)),
 o2 (.store 1 (.t 25) (.t 24))]) .ret) .skip))) (.region [0, 1, 2, 3, 4, 7] [o0 12 (.mv (.t 7)),
 o0 13 (.bin .add (.t 12) (.c (.int .i64 1))),
 o0 7 (.mv (.t 13))])))
def x431 : XFun :=
 ⟨[],(.seq (.seq (.region [0, 1, 2, 3, 4, 7] [o0 7 (.mv (.c (.int .i64 0)))]) (.block 0 (.loop [0, 1, 2, 3, 4, 7] x431L1))) (.seq (.region [1, 4] [o0 26 (.load none (.t 2)),
 o0 27 (.load none (.t 3)),
 o0 28 (.mv (.t 0)),
 o0 29 (.callP (.t 27) [.t 28]),
 o0 30 (.buildSlice 1 [(.int .i64 0)] 1 [(0, 1,(.t 29))]),
 o0 31 (.append 1 8 (.t 26) (.t 30)),
 o2 (.store 1 (.t 2) (.t 31))]) (.region [] [o0 32 (.load none (.t 4)),
 o0 33 (.mv (.t 1)),
 o0 34 (.buildSlice 1 [(.int .i64 0)] 1 [(0, 1,(.t 33))]),
 o0 35 (.append 1 8 (.t 32) (.t 34)),
 o2 (.store 1 (.t 4) (.t 35))])))⟩
def x598L1 : XCode :=
 (.seq (.seq (.region [0, 1, 4, 6, 7, 8, 37] [o0 34 (.mv (.t 8)),
 o0 35 (.mv (.t 1)),
 o0 36 (.len (.t 35)),
 o0 37 (.bin .lss (.t 34) (.t 36))]) (.cond (.t 37) .skip (.exit 1))) (.seq (.block 2 (.seq (.region [0, 1, 4, 6, 7, 8, 9] [o0 40 (.mv (.t 0)),
 o0 41 (.mv (.t 1)),
 o0 42 (.mv (.t 8)),
 o0 43 (.idxA 2 (.t 41) (.t 42)),
 o0 44 (.load (some 2) (.t 43)),
 o0 45 (.call .peek 616 [(.t 40),(.t 44)]),
 o0 9 (.alloc [(.int .u8 0),(.int .i64 0),(.string .empty)]),
 o2 (.store 3 (.t 9) (.t 45))]) (.seq (.seq (.region [0, 1, 4, 6, 7, 8, 9, 10, 11] [o0 47 (.mv (.t 7)),
 o0 48 (.load (some 3) (.t 9)),
 o0 49 (.lookup 57 [(.int .i64 0)] false (.t 47) (.t 48) true),
 o0 46 (.mv (.t 49)),
 o0 50 (.extract (.t 46) 0),
 o0 51 (.extract (.t 46) 1),
 o0 10 (.mv (.t 50)),
 o0 11 (.mv (.t 51))]) (.seq (.region [0, 1, 4, 6, 7, 8, 9, 10, 52] [o0 52 (.mv (.t 11))]) (.cond (.t 52) (.seq (.region [0, 1, 4, 6, 7, 8] [o0 53 (.mv (.t 6)),
 o0 54 (.mv (.t 10)),
 o0 55 (.bin .add (.t 54) (.c (.int .i64 1))),
 o0 56 (.mv (.t 1)),
 o0 57 (.mv (.t 8)),
 o0 58 (.bin .add (.t 57) (.c (.int .i64 1))),
 o0 59 (.idxA 2 (.t 56) (.t 58)),
 o0 60 (.load (some 2) (.t 59)),
 o0 61 (.idxA 2 (.t 53) (.t 55)),
 o2 (.store 2 (.t 61) (.t 60))]) (.exit 2)) .skip))) (.seq (.region [0, 1, 4, 6, 7, 8] [o0 62 (.mv (.t 7)),
 o0 63 (.load (some 3) (.t 9)),
 o0 64 (.mv (.t 6)),
 o0 65 (.len (.t 64)),
 o2 (.mapSet 57 (.t 62) (.t 63) (.t 65))]) (.region [0, 1, 4, 6, 7, 8] [o0 66 (.mv (.t 6)),
 o0 67 (.mv (.t 1)),
 o0 68 (.mv (.t 8)),
 o0 69 (.idxA 2 (.t 67) (.t 68)),
 o0 70 (.load (some 2) (.t 69)),
 o0 71 (.mv (.t 1)),
 o0 72 (.mv (.t 8)),
 o0 73 (.bin .add (.t 72) (.c (.int .i64 1))),
 o0 74 (.idxA 2 (.t 71) (.t 73)),
 o0 75 (.load (some 2) (.t 74)),
 o0 76 (.buildSlice 2 [(.int .u8 0),(.int .i64 0)] 2 [(0, 2,(.t 70)),(2, 2,(.t 75))]),
 o0 77 (.append 2 16 (.t 66) (.t 76)),
 o0 6 (.mv (.t 77))]))))) (.region [0, 1, 4, 6, 7, 8] [o0 38 (.mv (.t 8)),
 o0 39 (.bin .add (.t 38) (.c (.int .i64 2))),
 o0 8 (.mv (.t 39))])))
def x598 : XFun :=
 ⟨[.cell 4 (some 2),.tmp 5],(.seq (.region [0, 1, 4] [o0 4 (.alloc [(.int .u8 0),(.int .i64 0)]),
 o0 5 (.mv (.c (.int .i64 0)))]) (.seq (.block 0 (.seq (.region [0, 1, 4, 12] [o0 13 (.mv (.t 0)),
 o0 14 (.call .peek 611 [.t 13]),
 o0 12 (.mv (.t 14))]) (.cond (.t 12) (.seq (.region [4, 5] [o0 15 (.build [(.int .u8 0),(.int .i64 0)] []),
 o2 (.store 2 (.t 4) (.t 15)),
 o0 5 (.mv (.c (.int .i64 2)))]) .ret) (.seq (.region [0, 1, 4, 16] [o0 17 (.mv (.t 1)),
 o0 18 (.len (.t 17)),
 o0 19 (.bin .rem (.t 18) (.c (.int .i64 2))),
 o0 20 (.bin .eql (.t 19) (.c (.int .i64 1))),
 o0 21 (.mv (.t 20)),
 o1 22 21 false (.mv (.t 0)),
 o1 23 21 false (.mv (.t 1)),
 o1 24 21 false (.call .peek 606 [(.t 22),(.t 23),(.f 612)]),
 o1 25 21 false (.un .not (.t 24)),
 o0 26 (.pick (.t 21) (.c (.bool true)) (.t 25)),
 o0 16 (.mv (.t 26))]) (.cond (.t 16) (.seq (.region [4, 5] [o0 27 (.build [(.int .u8 0),(.int .i64 0)] []),
 o2 (.store 2 (.t 4) (.t 27)),
 o0 5 (.mv (.c (.int .i64 1)))]) .ret) (.seq (.region [0, 1, 4, 28] [o0 29 (.mv (.t 1)),
 o0 30 (.len (.t 29)),
 o0 31 (.bin .gtr (.t 30) (.c (.int .i64 131072))),
 o0 28 (.mv (.t 31))]) (.cond (.t 28) (.seq (.region [4, 5] [o0 32 (.build [(.int .u8 0),(.int .i64 0)] []),
 o2 (.store 2 (.t 4) (.t 32)),
 o0 5 (.mv (.c (.int .i64 3)))]) .ret) .skip))))))) (.seq (.region [0, 1, 4, 6] [o0 6 (.mv (.c (.slice none 0 0)))]) (.seq (.region [0, 1, 4, 6, 7] [o0 33 (.makeMap none),
 o0 7 (.mv (.t 33))]) (.seq (.seq (.region [0, 1, 4, 6, 7, 8] [o0 8 (.mv (.c (.int .i64 0)))]) (.block 1 (.loop [0, 1, 4, 6, 7, 8] x598L1))) (.seq (.region [4, 5] [o0 78 (.mv (.t 0)),
 o0 79 (.mv (.t 1)),
 o0 80 (.len (.t 79)),
 o0 81 (.mv (.t 6)),
 o0 82 (.call .share 617 [(.t 78),(.c (.int .u8 5)),(.t 80),(.t 81)]),
 o0 83 (.extract (.t 82) 0),
 o0 84 (.extract (.t 82) 1),
 o2 (.store 2 (.t 4) (.t 83)),
 o0 5 (.mv (.t 84))]) .ret))))))⟩
def x602 : XFun :=
 ⟨[.tmp 8],(.seq (.region [0, 5, 6, 7] [o0 5 (.box 2 (.t 1)),
 o0 6 (.box 2 (.t 2)),
 o0 7 (.box 2 (.t 3)),
 o0 8 (.mv (.c (.int .i64 0)))]) (.seq (.region [0, 6, 7, 9, 10] [o0 16 (.mv (.t 0)),
 o0 17 (.load (some 2) (.t 5)),
 o0 18 (.buildSlice 1 [(.int .u8 0)] 2 [(0, 1,(.c (.int .u8 4))),(1, 1,(.c (.int .u8 5)))]),
 o0 19 (.call .share 610 [(.t 16),(.t 17),(.t 18)]),
 o0 15 (.mv (.t 19)),
 o0 20 (.extract (.t 15) 0),
 o0 21 (.extract (.t 15) 1),
 o0 9 (.alloc [(.pointer none),(.int .i64 0),(.int .u8 0)]),
 o2 (.store 3 (.t 9) (.t 20)),
 o0 10 (.mv (.t 21))]) (.seq (.seq (.region [0, 6, 7, 9, 10, 23] [o0 22 (.mv (.t 10)),
 o0 23 (.bin .neq (.t 22) (.c (.int .i64 0)))]) (.cond (.t 23) (.seq (.region [8] [o0 24 (.mv (.t 10)),
 o0 8 (.mv (.t 24))]) .ret) .skip)) (.seq (.region [0, 6, 7, 9, 11] [o0 25 (.load (some 3) (.t 9)),
 o0 26 (.call .peek 286 [(.t 25),(.c (.int .i64 0))]),
 o0 27 (.conv .i64 (.t 26)),
 o0 11 (.mv (.t 27)),
 o0 12 (.mv (.c (.int .i64 0)))]) (.seq (.seq (.region [0, 6, 7, 9, 11, 30] [o0 28 (.fieldA 2 (.t 9)),
 o0 29 (.load none (.t 28)),
 o0 30 (.bin .eql (.t 29) (.c (.int .u8 4)))]) (.cond (.t 30) (.seq (.block 0 (.seq (.region [0, 6, 7, 9, 11, 31] [o0 32 (.fieldA 0 (.t 6)),
 o0 33 (.load none (.t 32)),
 o0 34 (.bin .neq (.t 33) (.c (.int .u8 2))),
 o0 31 (.mv (.t 34))]) (.cond (.t 31) (.seq (.region [8] [o0 8 (.mv (.c (.int .i64 9)))]) .ret) (.seq (.region [6, 7, 9, 11, 35] [o0 36 (.fieldA 1 (.t 6)),
 o0 37 (.load none (.t 36)),
 o0 38 (.bin .lss (.t 37) (.c (.int .i64 0))),
 o0 39 (.mv (.t 38)),
 o1 40 39 false (.fieldA 1 (.t 6)),
 o1 41 39 false (.load none (.t 40)),
 o1 42 39 false (.mv (.t 11)),
 o1 43 39 false (.bin .gtr (.t 41) (.t 42)),
 o0 44 (.pick (.t 39) (.c (.bool true)) (.t 43)),
 o0 45 (.mv (.t 44)),
 o1 46 45 false (.mv (.t 0)),
 o1 47 45 false (.load (some 2) (.t 7)),
 o1 48 45 false (.call .peek 612 [(.t 46),(.t 47)]),
 o1 49 45 false (.un .not (.t 48)),
 o0 50 (.pick (.t 45) (.c (.bool true)) (.t 49)),
 o0 35 (.mv (.t 50))]) (.cond (.t 35) (.seq (.region [8] [o0 8 (.mv (.c (.int .i64 1)))]) .ret) (.seq (.region [6, 7, 9, 11, 51] [o0 52 (.fieldA 1 (.t 6)),
 o0 53 (.load none (.t 52)),
 o0 54 (.mv (.t 11)),
 o0 55 (.bin .eql (.t 53) (.t 54)),
 o0 56 (.mv (.t 55)),
 o1 57 56 true (.mv (.t 11)),
 o1 58 56 true (.bin .eql (.t 57) (.c (.int .i64 65536))),
 o0 59 (.pick (.t 56) (.t 58) (.c (.bool false))),
 o0 51 (.mv (.t 59))]) (.cond (.t 51) (.seq (.region [8] [o0 8 (.mv (.c (.int .i64 3)))]) .ret) (.seq (.region [6, 7, 9, 60] [o0 61 (.fieldA 1 (.t 6)),
 o0 62 (.load none (.t 61)),
 o0 63 (.mv (.t 11)),
 o0 64 (.bin .eql (.t 62) (.t 63)),
 o0 60 (.mv (.t 64))]) (.cond (.t 60) (.seq (.region [8] [o0 65 (.load (some 3) (.t 9)),
 o0 66 (.load (some 2) (.t 7)),
 o0 67 (.buildSlice 2 [(.int .u8 0),(.int .i64 0)] 1 [(0, 2,(.t 66))]),
 o0 68 (.call .share 279 [(.t 65),(.c (.int .i64 4)),(.t 67)]),
 o0 8 (.mv (.t 68))]) .ret) .skip))))))))) (.region [7, 9, 12] [o0 69 (.fieldA 1 (.t 6)),
 o0 70 (.load none (.t 69)),
 o0 12 (.mv (.t 70))])) (.seq (.seq (.region [6, 7, 9, 11, 80] [o0 71 (.mv (.t 0)),
 o0 72 (.load (some 2) (.t 6)),
 o0 73 (.call .peek 612 [(.t 71),(.t 72)]),
 o0 74 (.un .not (.t 73)),
 o0 75 (.mv (.t 74)),
 o1 76 75 false (.mv (.t 0)),
 o1 77 75 false (.load (some 2) (.t 7)),
 o1 78 75 false (.call .peek 612 [(.t 76),(.t 77)]),
 o1 79 75 false (.un .not (.t 78)),
 o0 80 (.pick (.t 75) (.c (.bool true)) (.t 79))]) (.cond (.t 80) (.seq (.region [8] [o0 8 (.mv (.c (.int .i64 1)))]) .ret) .skip)) (.seq (.region [6, 7, 9, 11, 12] [o0 81 (.load (some 3) (.t 9)),
 o0 82 (.load (some 2) (.t 6)),
 o0 83 (.call .peek 274 [(.t 81),(.t 82)]),
 o0 12 (.mv (.t 83))]) (.block 1 (.seq (.region [6, 7, 9, 12, 84] [o0 85 (.mv (.t 12)),
 o0 86 (.bin .lss (.t 85) (.c (.int .i64 0))),
 o0 87 (.mv (.t 86)),
 o1 88 87 true (.mv (.t 11)),
 o1 89 87 true (.bin .eql (.t 88) (.c (.int .i64 131072))),
 o0 90 (.pick (.t 87) (.t 89) (.c (.bool false))),
 o0 84 (.mv (.t 90))]) (.cond (.t 84) (.seq (.region [8] [o0 8 (.mv (.c (.int .i64 3)))]) .ret) (.seq (.region [6, 7, 9, 12, 91] [o0 92 (.mv (.t 12)),
 o0 93 (.bin .lss (.t 92) (.c (.int .i64 0))),
 o0 91 (.mv (.t 93))]) (.cond (.t 91) (.seq (.region [8] [o0 94 (.load (some 3) (.t 9)),
 o0 95 (.load (some 2) (.t 6)),
 o0 96 (.load (some 2) (.t 7)),
 o0 97 (.buildSlice 2 [(.int .u8 0),(.int .i64 0)] 2 [(0, 2,(.t 95)),(2, 2,(.t 96))]),
 o0 98 (.call .share 279 [(.t 94),(.c (.int .i64 8)),(.t 97)]),
 o0 8 (.mv (.t 98))]) .ret) .skip))))))))) (.seq (.region [7, 12, 13] [o0 100 (.load (some 3) (.t 9)),
 o0 101 (.call .share 276 [.t 100]),
 o0 99 (.mv (.t 101)),
 o0 102 (.extract (.t 99) 0),
 o0 103 (.extract (.t 99) 1),
 o0 13 (.alloc [(.pointer none),(.int .i64 0),(.int .u8 0)]),
 o2 (.store 3 (.t 13) (.t 102)),
 o0 14 (.mv (.t 103))]) (.seq (.region [] [o0 104 (.load (some 3) (.t 13)),
 o0 105 (.mv (.t 12)),
 o0 106 (.bin .mul (.c (.int .i64 2)) (.t 105)),
 o0 107 (.load (some 2) (.t 7)),
 o0 108 (.call .share 275 [(.t 104),(.t 106),(.t 107)])]) (.seq (.region [8] [o0 8 (.mv (.c (.int .i64 0)))]) .ret))))))))⟩
def x593 : XFun :=
 ⟨[.tmp 4,.tmp 5],(.seq (.region [0, 3] [o0 3 (.box 2 (.t 1)),
 o0 4 (.mv (.c (.slice none 0 0))),
 o0 5 (.mv (.c (.int .i64 0)))]) (.seq (.region [6, 7] [o0 9 (.mv (.t 0)),
 o0 10 (.load (some 2) (.t 3)),
 o0 11 (.buildSlice 1 [(.int .u8 0)] 2 [(0, 1,(.c (.int .u8 4))),(1, 1,(.c (.int .u8 5)))]),
 o0 12 (.call .share 610 [(.t 9),(.t 10),(.t 11)]),
 o0 8 (.mv (.t 12)),
 o0 13 (.extract (.t 8) 0),
 o0 14 (.extract (.t 8) 1),
 o0 6 (.alloc [(.pointer none),(.int .i64 0),(.int .u8 0)]),
 o2 (.store 3 (.t 6) (.t 13)),
 o0 7 (.mv (.t 14))]) (.seq (.seq (.region [6, 7, 16] [o0 15 (.mv (.t 7)),
 o0 16 (.bin .neq (.t 15) (.c (.int .i64 0)))]) (.cond (.t 16) (.seq (.region [4, 5] [o0 17 (.mv (.t 7)),
 o0 4 (.mv (.c (.slice none 0 0))),
 o0 5 (.mv (.t 17))]) .ret) .skip)) (.seq (.region [4, 5] [o0 18 (.load (some 3) (.t 6)),
 o0 19 (.call .look 278 [.t 18]),
 o0 4 (.mv (.t 19)),
 o0 5 (.mv (.c (.int .i64 0)))]) .ret))))⟩
def x611 : XFun :=
 ⟨[.tmp 2],(.seq (.region [0] [o0 2 (.mv (.c (.bool false)))]) (.seq (.region [2] [o0 3 (.mv (.t 0)),
 o0 4 (.eqNil false 1 (.t 3)),
 o0 5 (.mv (.t 4)),
 o1 6 5 false (.mv (.t 0)),
 o1 7 5 false (.call .peek 177 [.t 6]),
 o1 8 5 false (.bin .eql (.t 7) (.c (.int .i64 0))),
 o0 9 (.pick (.t 5) (.c (.bool true)) (.t 8)),
 o0 2 (.mv (.t 9))]) .ret))⟩
def x615 : XFun :=
 ⟨[.cell 6 (some 3),.tmp 7],(.seq (.region [0, 1, 2, 6] [o0 6 (.alloc [(.pointer none),(.int .i64 0),(.int .u8 0)]),
 o0 7 (.mv (.c (.int .i64 0)))]) (.seq (.region [0, 1, 6, 8, 9] [o0 11 (.mv (.t 0)),
 o0 12 (.mv (.t 1)),
 o0 13 (.mv (.t 2)),
 o0 14 (.call .share 169 [(.t 11),(.t 12),(.t 13)]),
 o0 10 (.mv (.t 14)),
 o0 15 (.extract (.t 10) 0),
 o0 16 (.extract (.t 10) 1),
 o0 8 (.mv (.t 15)),
 o0 9 (.mv (.t 16))]) (.seq (.region [6, 7] [o0 17 (.mv (.t 0)),
 o0 18 (.mv (.t 8)),
 o0 19 (.mv (.t 1)),
 o0 20 (.build [(.pointer none),(.int .i64 0),(.int .u8 0)] [(0, 1,(.t 17)),(1, 1,(.t 18)),(2, 1,(.t 19))]),
 o0 21 (.mv (.t 9)),
 o2 (.store 3 (.t 6) (.t 20)),
 o0 7 (.mv (.t 21))]) .ret)))⟩
def x618 : XFun :=
 ⟨[.cell 4 (some 2),.tmp 5],(.seq (.region [1, 2, 4] [o0 2 (.box 3 (.t 0)),
 o0 4 (.alloc [(.int .u8 0),(.int .i64 0)]),
 o0 5 (.mv (.c (.int .i64 0)))]) (.seq (.seq (.region [1, 2, 4, 7] [o0 6 (.mv (.t 1)),
 o0 7 (.bin .neq (.t 6) (.c (.int .i64 0)))]) (.cond (.t 7) (.seq (.region [4, 5] [o0 8 (.build [(.int .u8 0),(.int .i64 0)] []),
 o0 9 (.mv (.t 1)),
 o2 (.store 2 (.t 4) (.t 8)),
 o0 5 (.mv (.t 9))]) .ret) .skip)) (.seq (.region [4, 5] [o0 10 (.fieldA 2 (.t 2)),
 o0 11 (.load none (.t 10)),
 o0 12 (.fieldA 1 (.t 2)),
 o0 13 (.load none (.t 12)),
 o0 14 (.build [(.int .u8 0),(.int .i64 0)] [(0, 1,(.t 11)),(1, 1,(.t 13))]),
 o2 (.store 2 (.t 4) (.t 14)),
 o0 5 (.mv (.c (.int .i64 0)))]) .ret)))⟩
def x597 : XFun :=
 ⟨[.cell 4 (some 2),.tmp 5],(.seq (.region [0, 1, 4] [o0 4 (.alloc [(.int .u8 0),(.int .i64 0)]),
 o0 5 (.mv (.c (.int .i64 0)))]) (.seq (.block 0 (.seq (.region [0, 1, 4, 6] [o0 7 (.mv (.t 0)),
 o0 8 (.call .peek 611 [.t 7]),
 o0 6 (.mv (.t 8))]) (.cond (.t 6) (.seq (.region [4, 5] [o0 9 (.build [(.int .u8 0),(.int .i64 0)] []),
 o2 (.store 2 (.t 4) (.t 9)),
 o0 5 (.mv (.c (.int .i64 2)))]) .ret) (.seq (.region [0, 1, 4, 10] [o0 11 (.mv (.t 0)),
 o0 12 (.mv (.t 1)),
 o0 13 (.call .peek 606 [(.t 11),(.t 12),(.f 612)]),
 o0 14 (.un .not (.t 13)),
 o0 10 (.mv (.t 14))]) (.cond (.t 10) (.seq (.region [4, 5] [o0 15 (.build [(.int .u8 0),(.int .i64 0)] []),
 o2 (.store 2 (.t 4) (.t 15)),
 o0 5 (.mv (.c (.int .i64 1)))]) .ret) (.seq (.region [0, 1, 4, 16] [o0 17 (.mv (.t 1)),
 o0 18 (.len (.t 17)),
 o0 19 (.bin .gtr (.t 18) (.c (.int .i64 65536))),
 o0 16 (.mv (.t 19))]) (.cond (.t 16) (.seq (.region [4, 5] [o0 20 (.build [(.int .u8 0),(.int .i64 0)] []),
 o2 (.store 2 (.t 4) (.t 20)),
 o0 5 (.mv (.c (.int .i64 3)))]) .ret) .skip))))))) (.seq (.region [4, 5] [o0 21 (.mv (.t 0)),
 o0 22 (.mv (.t 1)),
 o0 23 (.len (.t 22)),
 o0 24 (.mv (.t 1)),
 o0 25 (.call .share 617 [(.t 21),(.c (.int .u8 4)),(.t 23),(.t 24)]),
 o0 26 (.extract (.t 25) 0),
 o0 27 (.extract (.t 25) 1),
 o2 (.store 2 (.t 4) (.t 26)),
 o0 5 (.mv (.t 27))]) .ret)))⟩
def x610 : XFun :=
 ⟨[.cell 6 (some 3),.tmp 7],(.seq (.region [0, 2, 4, 6] [o0 4 (.box 2 (.t 1)),
 o0 6 (.alloc [(.pointer none),(.int .i64 0),(.int .u8 0)]),
 o0 7 (.mv (.c (.int .i64 0)))]) (.seq (.block 0 (.seq (.region [0, 2, 4, 6, 10] [o0 11 (.mv (.t 0)),
 o0 12 (.call .peek 611 [.t 11]),
 o0 10 (.mv (.t 12))]) (.cond (.t 10) (.seq (.region [6, 7] [o0 13 (.build [(.pointer none),(.int .i64 0),(.int .u8 0)] []),
 o2 (.store 3 (.t 6) (.t 13)),
 o0 7 (.mv (.c (.int .i64 2)))]) .ret) (.seq (.region [0, 4, 6, 14] [o0 15 (.mv (.t 2)),
 o0 16 (.fieldA 0 (.t 4)),
 o0 17 (.load none (.t 16)),
 o0 18 (.call .peek 752 [(.t 15),(.t 17)]),
 o0 19 (.un .not (.t 18)),
 o0 14 (.mv (.t 19))]) (.cond (.t 14) (.seq (.region [6, 7] [o0 20 (.build [(.pointer none),(.int .i64 0),(.int .u8 0)] []),
 o2 (.store 3 (.t 6) (.t 20)),
 o0 7 (.mv (.c (.int .i64 9)))]) .ret) .skip))))) (.seq (.region [6, 8, 9] [o0 22 (.mv (.t 0)),
 o0 23 (.load (some 2) (.t 4)),
 o0 24 (.call .share 613 [(.t 22),(.t 23)]),
 o0 21 (.mv (.t 24)),
 o0 25 (.extract (.t 21) 0),
 o0 26 (.extract (.t 21) 1),
 o0 8 (.alloc [(.pointer none),(.int .i64 0),(.int .u8 0)]),
 o2 (.store 3 (.t 8) (.t 25)),
 o0 9 (.mv (.t 26))]) (.seq (.seq (.region [6, 8, 33] [o0 27 (.mv (.t 9)),
 o0 28 (.un .not (.t 27)),
 o0 29 (.mv (.t 28)),
 o1 30 29 false (.load (some 3) (.t 8)),
 o1 31 29 false (.call .peek 277 [.t 30]),
 o1 32 29 false (.un .not (.t 31)),
 o0 33 (.pick (.t 29) (.c (.bool true)) (.t 32))]) (.cond (.t 33) (.seq (.region [6, 7] [o0 34 (.build [(.pointer none),(.int .i64 0),(.int .u8 0)] []),
 o2 (.store 3 (.t 6) (.t 34)),
 o0 7 (.mv (.c (.int .i64 1)))]) .ret) .skip)) (.seq (.region [6, 7] [o0 35 (.load (some 3) (.t 8)),
 o2 (.store 3 (.t 6) (.t 35)),
 o0 7 (.mv (.c (.int .i64 0)))]) .ret)))))⟩
def x282L1 : XCode :=
 (.seq (.seq (.region [1, 3, 4, 5, 6, 7, 24] [o0 23 (.mv (.t 7)),
 o0 24 (.bin .lss (.t 23) (.c (.int .i64 8)))]) (.cond (.t 24) .skip (.exit 2))) (.seq (.block 3 (.region [1, 3, 4, 5, 6, 7] [o0 27 (.mv (.t 4)),
 o0 28 (.mv (.t 6)),
 o0 29 (.mv (.t 7)),
 o0 30 (.bin .mul (.c (.int .i64 8)) (.t 29)),
 o0 31 (.bin .shr (.t 28) (.t 30)),
 o0 32 (.conv .u8 (.t 31)),
 o0 33 (.buildSlice 1 [(.int .u8 0)] 1 [(0, 1,(.t 32))]),
 o0 34 (.append 1 1 (.t 27) (.t 33)),
 o0 4 (.mv (.t 34))])) (.region [1, 3, 4, 5, 6, 7] [o0 25 (.mv (.t 7)),
 o0 26 (.bin .add (.t 25) (.c (.int .i64 1))),
 o0 7 (.mv (.t 26))])))
def x282L2 : XCode :=
 (.seq (.seq (.region [1, 3, 4, 5, 17] [o0 14 (.mv (.t 4)),
 o0 15 (.len (.t 14)),
 o0 16 (.mv (.t 3)),
 o0 17 (.bin .lss (.t 15) (.t 16))]) (.cond (.t 17) .skip (.exit 0))) (.seq (.block 1 (.seq (.region [1, 3, 4, 5, 6, 7] [o0 20 (.load (some 3) (.t 1)),
 o0 21 (.mv (.t 5)),
 o0 22 (.call .peek 286 [(.t 20),(.t 21)]),
 o0 6 (.mv (.t 22)),
 o0 7 (.mv (.c (.int .i64 0)))]) (.block 2 (.loop [1, 3, 4, 5, 6, 7] x282L1)))) (.region [1, 3, 4, 5] [o0 18 (.mv (.t 5)),
 o0 19 (.bin .add (.t 18) (.c (.int .i64 1))),
 o0 5 (.mv (.t 19))])))
def x282 : XFun :=
 ⟨[.tmp 2],(.seq (.region [1] [o0 1 (.box 3 (.t 0)),
 o0 2 (.mv (.c (.string .empty)))]) (.seq (.region [1, 3] [o0 8 (.load (some 3) (.t 1)),
 o0 9 (.call .peek 286 [(.t 8),(.c (.int .i64 0))]),
 o0 10 (.conv .i64 (.t 9)),
 o0 3 (.mv (.t 10))]) (.seq (.region [1, 3, 4] [o0 11 (.mv (.t 3)),
 o0 12 (.bin .add (.t 11) (.c (.int .i64 7))),
 o0 13 (.makeSlice 1 1 [(.int .u8 0)] (.c (.int .i64 0)) (.t 12)),
 o0 4 (.mv (.t 13))]) (.seq (.seq (.region [1, 3, 4, 5] [o0 5 (.mv (.c (.int .i64 1)))]) (.block 0 (.loop [1, 3, 4, 5] x282L2))) (.seq (.region [2] [o0 35 (.mv (.t 4)),
 o0 36 (.mv (.t 3)),
 o0 37 (.slice 1 (.t 35) none (some (.t 36))),
 o0 38 (.strOf (.t 37)),
 o0 2 (.mv (.t 38))]) .ret)))))⟩
def x286 : XFun :=
 ⟨[.tmp 4],(.seq (.region [1, 2] [o0 2 (.box 3 (.t 0)),
 o0 4 (.mv (.c (.int .u64 0)))]) (.seq (.region [5] [o0 8 (.fieldA 0 (.t 2)),
 o0 9 (.load none (.t 8)),
 o0 10 (.fieldA 1 (.t 2)),
 o0 11 (.load none (.t 10)),
 o0 12 (.mv (.t 1)),
 o0 13 (.call .peek 174 [(.t 9),(.t 11),(.t 12)]),
 o0 7 (.mv (.t 13)),
 o0 14 (.extract (.t 7) 0),
 o0 15 (.extract (.t 7) 1),
 o0 5 (.mv (.t 14)),
 o0 6 (.mv (.t 15))]) (.seq (.region [4] [o0 16 (.mv (.t 5)),
 o0 4 (.mv (.t 16))]) .ret)))⟩
def x616 : XFun :=
 ⟨[.cell 4 (some 3)],(.seq (.region [0, 3, 4] [o0 3 (.box 2 (.t 1)),
 o0 4 (.alloc [(.int .u8 0),(.int .i64 0),(.string .empty)])]) (.seq (.seq (.region [0, 3, 4, 9] [o0 7 (.fieldA 0 (.t 3)),
 o0 8 (.load none (.t 7)),
 o0 9 (.bin .eql (.t 8) (.c (.int .u8 0)))]) (.cond (.t 9) (.seq (.region [4] [o0 10 (.build [(.int .u8 0),(.int .i64 0),(.string .empty)] []),
 o2 (.store 3 (.t 4) (.t 10))]) .ret) .skip)) (.seq (.seq (.region [3, 4, 5, 6] [o0 12 (.mv (.t 0)),
 o0 13 (.load (some 2) (.t 3)),
 o0 14 (.call .peek 605 [(.t 12),(.t 13)]),
 o0 11 (.mv (.t 14)),
 o0 15 (.extract (.t 11) 0),
 o0 16 (.extract (.t 11) 1),
 o0 5 (.mv (.t 15)),
 o0 6 (.mv (.t 16))]) (.seq (.region [3, 4, 5, 18] [o0 17 (.mv (.t 6)),
 o0 18 (.bin .eql (.t 17) (.c (.int .i64 0)))]) (.cond (.t 18) (.seq (.region [4] [o0 19 (.build [(.int .u8 0),(.int .i64 0)] [(0, 1,(.c (.int .u8 3)))]),
 o0 20 (.mv (.t 5)),
 o0 21 (.bin .add (.c (.string ⟨#[61]⟩)) (.t 20)),
 o0 22 (.build [(.int .u8 0),(.int .i64 0),(.string .empty)] [(0, 2,(.t 19)),(2, 1,(.t 21))]),
 o2 (.store 3 (.t 4) (.t 22))]) .ret) .skip))) (.seq (.region [4] [o0 23 (.load (some 2) (.t 3)),
 o0 24 (.build [(.int .u8 0),(.int .i64 0),(.string .empty)] [(0, 2,(.t 23)),(2, 1,(.c (.string .empty)))]),
 o2 (.store 3 (.t 4) (.t 24))]) .ret))))⟩
def x276 : XFun :=
 ⟨[.cell 2 (some 3),.tmp 3],(.seq (.region [1, 2] [o0 1 (.box 3 (.t 0)),
 o0 2 (.alloc [(.pointer none),(.int .i64 0),(.int .u8 0)]),
 o0 3 (.mv (.c (.bool false)))]) (.seq (.region [2, 3] [o0 4 (.fieldA 0 (.t 1)),
 o0 5 (.load none (.t 4)),
 o0 6 (.load (some 3) (.t 1)),
 o0 7 (.call .peek 286 [(.t 6),(.c (.int .i64 1))]),
 o0 8 (.bin .sub (.t 7) (.c (.int .u64 1))),
 o0 9 (.conv .i64 (.t 8)),
 o0 10 (.call .touch 614 [(.t 5),(.t 9)]),
 o0 11 (.extract (.t 10) 0),
 o0 12 (.extract (.t 10) 1),
 o2 (.store 3 (.t 2) (.t 11)),
 o0 3 (.mv (.t 12))]) .ret))⟩
def x274L1 : XCode :=
 (.seq (.seq (.region [2, 5, 6, 8, 22] [o0 18 (.mv (.t 8)),
 o0 19 (.load (some 3) (.t 2)),
 o0 20 (.call .peek 286 [(.t 19),(.c (.int .i64 0))]),
 o0 21 (.conv .i64 (.t 20)),
 o0 22 (.bin .lss (.t 18) (.t 21))]) (.cond (.t 22) .skip (.exit 0))) (.seq (.block 1 (.seq (.region [2, 5, 6, 8, 33] [o0 25 (.fieldA 0 (.t 2)),
 o0 26 (.load none (.t 25)),
 o0 27 (.load (some 3) (.t 6)),
 o0 28 (.mv (.t 8)),
 o0 29 (.bin .mul (.c (.int .i64 2)) (.t 28)),
 o0 30 (.call .peek 283 [(.t 27),(.t 29)]),
 o0 31 (.call .peek 616 [(.t 26),(.t 30)]),
 o0 32 (.load (some 3) (.t 5)),
 o0 33 (.eqCells false [0, 0, 2] (.t 31) (.t 32))]) (.cond (.t 33) (.seq (.region [4] [o0 34 (.mv (.t 8)),
 o0 35 (.bin .add (.t 34) (.c (.int .i64 1))),
 o0 4 (.mv (.t 35))]) .ret) .skip))) (.region [2, 5, 6, 8] [o0 23 (.mv (.t 8)),
 o0 24 (.bin .add (.t 23) (.c (.int .i64 2))),
 o0 8 (.mv (.t 24))])))
def x274 : XFun :=
 ⟨[.tmp 4],(.seq (.region [2, 3] [o0 2 (.box 3 (.t 0)),
 o0 3 (.box 2 (.t 1)),
 o0 4 (.mv (.c (.int .i64 0)))]) (.seq (.region [2, 5] [o0 9 (.fieldA 0 (.t 2)),
 o0 10 (.load none (.t 9)),
 o0 11 (.load (some 2) (.t 3)),
 o0 12 (.call .peek 616 [(.t 10),(.t 11)]),
 o0 5 (.alloc [(.int .u8 0),(.int .i64 0),(.string .empty)]),
 o2 (.store 3 (.t 5) (.t 12))]) (.seq (.region [2, 5, 6] [o0 14 (.load (some 3) (.t 2)),
 o0 15 (.call .share 276 [.t 14]),
 o0 13 (.mv (.t 15)),
 o0 16 (.extract (.t 13) 0),
 o0 17 (.extract (.t 13) 1),
 o0 6 (.alloc [(.pointer none),(.int .i64 0),(.int .u8 0)]),
 o2 (.store 3 (.t 6) (.t 16)),
 o0 7 (.mv (.t 17))]) (.seq (.seq (.region [2, 5, 6, 8] [o0 8 (.mv (.c (.int .i64 0)))]) (.block 0 (.loop [2, 5, 6, 8] x274L1))) (.seq (.region [4] [o0 4 (.mv (.c (.int .i64 (-1))))]) .ret)))))⟩
def x283 : XFun :=
 ⟨[.cell 4 (some 2)],(.seq (.region [1, 2, 4] [o0 2 (.box 3 (.t 0)),
 o0 4 (.alloc [(.int .u8 0),(.int .i64 0)])]) (.seq (.region [1, 2, 4, 5] [o0 6 (.load (some 3) (.t 2)),
 o0 7 (.mv (.t 1)),
 o0 8 (.call .peek 286 [(.t 6),(.t 7)]),
 o0 5 (.mv (.t 8))]) (.seq (.seq (.region [1, 2, 4, 5, 10] [o0 9 (.mv (.t 5)),
 o0 10 (.bin .gtr (.t 9) (.c (.int .u64 255)))]) (.cond (.t 10) (.seq (.region [4] [o0 11 (.build [(.int .u8 0),(.int .i64 0)] []),
 o2 (.store 2 (.t 4) (.t 11))]) .ret) .skip)) (.seq (.region [4] [o0 12 (.mv (.t 5)),
 o0 13 (.conv .u8 (.t 12)),
 o0 14 (.load (some 3) (.t 2)),
 o0 15 (.mv (.t 1)),
 o0 16 (.bin .add (.t 15) (.c (.int .i64 1))),
 o0 17 (.call .peek 286 [(.t 14),(.t 16)]),
 o0 18 (.conv .i64 (.t 17)),
 o0 19 (.build [(.int .u8 0),(.int .i64 0)] [(0, 1,(.t 13)),(1, 1,(.t 18))]),
 o2 (.store 2 (.t 4) (.t 19))]) .ret))))⟩
def x606 : XFun :=
 ⟨[.tmp 6],(.seq (.region [1, 3, 5] [o0 3 (.box 1 (.t 0)),
 o0 5 (.box 1 (.t 2)),
 o0 6 (.mv (.c (.bool false)))]) (.seq (.region [6] [o0 7 (.mv (.t 1)),
 o0 8 (.mkClo 607 [(.t 5),(.t 3)]),
 o0 9 (.call .share 749 [(.t 7),(.t 8)]),
 o0 10 (.un .not (.t 9)),
 o0 6 (.mv (.t 10))]) .ret))⟩
def x612 : XFun :=
 ⟨[.tmp 4],(.seq (.region [0, 3] [o0 3 (.box 2 (.t 1)),
 o0 4 (.mv (.c (.bool false)))]) (.seq (.seq (.region [0, 3, 8] [o0 7 (.fieldA 0 (.t 3)),
 o0 8 (.load none (.t 7))]) (.block 0 (.seq (.region [0, 3, 8, 9] [o0 10 (.bin .eql (.t 8) (.c (.int .u8 0))),
 o0 9 (.mv (.t 10))]) (.cond (.t 9) (.seq (.region [4] [o0 11 (.fieldA 1 (.t 3)),
 o0 12 (.load none (.t 11)),
 o0 13 (.bin .eql (.t 12) (.c (.int .i64 0))),
 o0 4 (.mv (.t 13))]) .ret) (.seq (.region [0, 3, 8, 14] [o0 15 (.bin .eql (.t 8) (.c (.int .u8 1))),
 o0 14 (.mv (.t 15))]) (.cond (.t 14) (.seq (.region [4] [o0 16 (.fieldA 1 (.t 3)),
 o0 17 (.load none (.t 16)),
 o0 18 (.bin .eql (.t 17) (.c (.int .i64 0))),
 o0 19 (.mv (.t 18)),
 o1 20 19 false (.fieldA 1 (.t 3)),
 o1 21 19 false (.load none (.t 20)),
 o1 22 19 false (.bin .eql (.t 21) (.c (.int .i64 1))),
 o0 23 (.pick (.t 19) (.c (.bool true)) (.t 22)),
 o0 4 (.mv (.t 23))]) .ret) (.seq (.region [0, 3, 8, 24] [o0 25 (.bin .eql (.t 8) (.c (.int .u8 2))),
 o0 24 (.mv (.t 25))]) (.cond (.t 24) (.seq (.region [4] [o0 4 (.mv (.c (.bool true)))]) .ret) (.seq (.seq (.region [0, 3, 8, 26] [o0 27 (.bin .eql (.t 8) (.c (.int .u8 3))),
 o0 26 (.mv (.t 27))]) (.cond (.t 26) .skip (.seq (.region [0, 3, 8, 26] [o0 28 (.bin .eql (.t 8) (.c (.int .u8 4))),
 o0 26 (.mv (.t 28))]) (.cond (.t 26) .skip (.seq (.region [0, 3, 8, 26] [o0 29 (.bin .eql (.t 8) (.c (.int .u8 5))),
 o0 26 (.mv (.t 29))]) (.cond (.t 26) .skip (.region [0, 3, 26] [o0 30 (.bin .eql (.t 8) (.c (.int .u8 6))),
 o0 26 (.mv (.t 30))]))))))) (.cond (.t 26) (.seq (.region [6] [o0 32 (.mv (.t 0)),
 o0 33 (.load (some 2) (.t 3)),
 o0 34 (.call .share 613 [(.t 32),(.t 33)]),
 o0 31 (.mv (.t 34)),
 o0 35 (.extract (.t 31) 0),
 o0 36 (.extract (.t 31) 1),
 o0 5 (.alloc [(.pointer none),(.int .i64 0),(.int .u8 0)]),
 o2 (.store 3 (.t 5) (.t 35)),
 o0 6 (.mv (.t 36))]) (.seq (.region [4] [o0 37 (.mv (.t 6)),
 o0 4 (.mv (.t 37))]) .ret)) .skip)))))))))) (.seq (.region [4] [o0 4 (.mv (.c (.bool false)))]) .ret)))⟩
def x617 : XFun :=
 ⟨[.cell 8 (some 2),.tmp 9],(.seq (.region [0, 1, 2, 3, 8] [o0 8 (.alloc [(.int .u8 0),(.int .i64 0)]),
 o0 9 (.mv (.c (.int .i64 0)))]) (.seq (.seq (.region [0, 1, 2, 3, 8, 10] [o0 14 (.mv (.t 2)),
 o0 15 (.bin .mul (.c (.int .i64 2)) (.t 14)),
 o0 16 (.bin .add (.c (.int .i64 4)) (.t 15)),
 o0 10 (.mv (.t 16))]) (.seq (.region [0, 1, 2, 3, 8, 27] [o0 17 (.mv (.t 2)),
 o0 18 (.bin .gtr (.t 17) (.c (.int .i64 0))),
 o0 19 (.mv (.t 18)),
 o1 20 19 true (.mv (.t 10)),
 o1 21 19 true (.mv (.t 0)),
 o1 22 19 true (.call .peek 177 [.t 21]),
 o1 23 19 true (.mv (.t 0)),
 o1 24 19 true (.call .peek 176 [.t 23]),
 o1 25 19 true (.bin .sub (.t 22) (.t 24)),
 o1 26 19 true (.bin .gtr (.t 20) (.t 25)),
 o0 27 (.pick (.t 19) (.t 26) (.c (.bool false)))]) (.cond (.t 27) (.seq (.region [8, 9] [o0 28 (.build [(.int .u8 0),(.int .i64 0)] []),
 o2 (.store 2 (.t 8) (.t 28)),
 o0 9 (.mv (.c (.int .i64 7)))]) .ret) .skip))) (.seq (.region [0, 2, 3, 8, 11, 12] [o0 30 (.mv (.t 0)),
 o0 31 (.mv (.t 1)),
 o0 32 (.call .share 615 [(.t 30),(.t 31),(.c (.int .i64 2))]),
 o0 29 (.mv (.t 32)),
 o0 33 (.extract (.t 29) 0),
 o0 34 (.extract (.t 29) 1),
 o0 11 (.alloc [(.pointer none),(.int .i64 0),(.int .u8 0)]),
 o2 (.store 3 (.t 11) (.t 33)),
 o0 12 (.mv (.t 34))]) (.seq (.seq (.region [0, 2, 3, 8, 11, 12, 40] [o0 35 (.mv (.t 12)),
 o0 36 (.bin .neq (.t 35) (.c (.int .i64 0))),
 o0 37 (.mv (.t 36)),
 o1 38 37 false (.mv (.t 2)),
 o1 39 37 false (.bin .eql (.t 38) (.c (.int .i64 0))),
 o0 40 (.pick (.t 37) (.c (.bool true)) (.t 39))]) (.cond (.t 40) (.seq (.region [8, 9] [o0 41 (.load (some 3) (.t 11)),
 o0 42 (.mv (.t 12)),
 o0 43 (.call .peek 618 [(.t 41),(.t 42)]),
 o0 44 (.extract (.t 43) 0),
 o0 45 (.extract (.t 43) 1),
 o2 (.store 2 (.t 8) (.t 44)),
 o0 9 (.mv (.t 45))]) .ret) .skip)) (.seq (.region [3, 8, 11, 12, 13] [o0 47 (.mv (.t 0)),
 o0 48 (.mv (.t 2)),
 o0 49 (.mv (.t 3)),
 o0 50 (.call .share 609 [(.t 47),(.t 48),(.t 49)]),
 o0 46 (.mv (.t 50)),
 o0 51 (.extract (.t 46) 0),
 o0 52 (.extract (.t 46) 1),
 o0 13 (.alloc [(.pointer none),(.int .i64 0),(.int .u8 0)]),
 o2 (.store 3 (.t 13) (.t 51)),
 o0 12 (.mv (.t 52))]) (.seq (.region [8, 11, 12, 13] [o0 53 (.fieldA 0 (.t 11)),
 o0 54 (.load none (.t 53)),
 o0 55 (.fieldA 1 (.t 11)),
 o0 56 (.load none (.t 55)),
 o0 57 (.mv (.t 3)),
 o0 58 (.len (.t 57)),
 o0 59 (.conv .u64 (.t 58)),
 o0 60 (.call .share 178 [(.t 54),(.t 56),(.c (.int .i64 0)),(.t 59)])]) (.seq (.region [8, 11, 12] [o0 61 (.fieldA 0 (.t 11)),
 o0 62 (.load none (.t 61)),
 o0 63 (.fieldA 1 (.t 11)),
 o0 64 (.load none (.t 63)),
 o0 65 (.fieldA 1 (.t 13)),
 o0 66 (.load none (.t 65)),
 o0 67 (.conv .u64 (.t 66)),
 o0 68 (.bin .add (.t 67) (.c (.int .u64 1))),
 o0 69 (.call .share 178 [(.t 62),(.t 64),(.c (.int .i64 1)),(.t 68)])]) (.seq (.region [8, 9] [o0 70 (.load (some 3) (.t 11)),
 o0 71 (.mv (.t 12)),
 o0 72 (.call .peek 618 [(.t 70),(.t 71)]),
 o0 73 (.extract (.t 72) 0),
 o0 74 (.extract (.t 72) 1),
 o2 (.store 2 (.t 8) (.t 73)),
 o0 9 (.mv (.t 74))]) .ret))))))))⟩
def x279L1 : XCode :=
 (.seq (.region [2, 3, 7, 10, 56, 57, 58, 59] [o0 59 (.bin .lss (.t 58) (.t 57))]) (.seq (.cond (.t 59) .skip (.exit 0)) (.seq (.block 1 (.seq (.region [2, 3, 7, 10, 12, 13, 56, 57, 58] [o0 60 (.mv (.t 58)),
 o0 61 (.idxA 2 (.t 56) (.t 58)),
 o0 62 (.load (some 2) (.t 61)),
 o0 13 (.alloc [(.int .u8 0),(.int .i64 0)]),
 o0 12 (.mv (.t 60)),
 o2 (.store 2 (.t 13) (.t 62))]) (.region [2, 3, 7, 10, 56, 57, 58] [o0 63 (.load (some 3) (.t 10)),
 o0 64 (.mv (.t 7)),
 o0 65 (.mv (.t 12)),
 o0 66 (.bin .add (.t 64) (.t 65)),
 o0 67 (.bin .mul (.c (.int .i64 2)) (.t 66)),
 o0 68 (.load (some 2) (.t 13)),
 o0 69 (.call .share 275 [(.t 63),(.t 67),(.t 68)])]))) (.region [2, 3, 7, 10, 56, 57, 58] [o0 70 (.bin .add (.t 58) (.c (.int .i64 1))),
 o0 58 (.mv (.t 70))]))))
def x279 : XFun :=
 ⟨[.tmp 6],(.seq (.region [1, 2, 3] [o0 3 (.box 3 (.t 0)),
 o0 6 (.mv (.c (.int .i64 0)))]) (.seq (.region [1, 2, 3, 7] [o0 14 (.load (some 3) (.t 3)),
 o0 15 (.call .peek 286 [(.t 14),(.c (.int .i64 0))]),
 o0 16 (.conv .i64 (.t 15)),
 o0 7 (.mv (.t 16))]) (.seq (.seq (.region [1, 2, 3, 7, 23] [o0 17 (.mv (.t 7)),
 o0 18 (.mv (.t 2)),
 o0 19 (.len (.t 18)),
 o0 20 (.bin .add (.t 17) (.t 19)),
 o0 21 (.load (some 3) (.t 3)),
 o0 22 (.call .peek 280 [.t 21]),
 o0 23 (.bin .gtr (.t 20) (.t 22))]) (.cond (.t 23) (.seq (.region [2, 3, 7, 8, 9] [o0 25 (.fieldA 0 (.t 3)),
 o0 26 (.load none (.t 25)),
 o0 27 (.mv (.t 1)),
 o0 28 (.load (some 3) (.t 3)),
 o0 29 (.call .peek 280 [.t 28]),
 o0 30 (.bin .mul (.c (.int .i64 2)) (.t 29)),
 o0 31 (.minmax false (.t 27) (.t 30)),
 o0 32 (.load (some 3) (.t 3)),
 o0 33 (.call .look 278 [.t 32]),
 o0 34 (.mv (.t 2)),
 o0 35 (.appendT 2 16 (.t 33) (.t 34) [(none,(.t 25))]),
 o0 36 (.call .touch 609 [(.t 26),(.t 31),(.t 35)]),
 o0 24 (.mv (.t 36)),
 o0 37 (.extract (.t 24) 0),
 o0 38 (.extract (.t 24) 1),
 o0 8 (.alloc [(.pointer none),(.int .i64 0),(.int .u8 0)]),
 o2 (.store 3 (.t 8) (.t 37)),
 o0 9 (.mv (.t 38))]) (.seq (.seq (.region [2, 3, 7, 8, 9, 40] [o0 39 (.mv (.t 9)),
 o0 40 (.bin .neq (.t 39) (.c (.int .i64 0)))]) (.cond (.t 40) (.seq (.region [6] [o0 41 (.mv (.t 9)),
 o0 6 (.mv (.t 41))]) .ret) .skip)) (.region [2, 3, 7] [o0 42 (.fieldA 0 (.t 3)),
 o0 43 (.load none (.t 42)),
 o0 44 (.fieldA 1 (.t 3)),
 o0 45 (.load none (.t 44)),
 o0 46 (.fieldA 1 (.t 8)),
 o0 47 (.load none (.t 46)),
 o0 48 (.conv .u64 (.t 47)),
 o0 49 (.bin .add (.t 48) (.c (.int .u64 1))),
 o0 50 (.call .share 178 [(.t 43),(.t 45),(.c (.int .i64 1)),(.t 49)])]))) (.seq (.region [2, 3, 7, 10] [o0 52 (.load (some 3) (.t 3)),
 o0 53 (.call .share 276 [.t 52]),
 o0 51 (.mv (.t 53)),
 o0 54 (.extract (.t 51) 0),
 o0 55 (.extract (.t 51) 1),
 o0 10 (.alloc [(.pointer none),(.int .i64 0),(.int .u8 0)]),
 o2 (.store 3 (.t 10) (.t 54)),
 o0 11 (.mv (.t 55))]) (.seq (.region [2, 3, 7, 10, 56, 57, 58] [o0 56 (.mv (.t 2)),
 o0 57 (.len (.t 56)),
 o0 58 (.mv (.c (.int .i64 0)))]) (.block 0 (.loop [2, 3, 7, 10, 56, 57, 58] x279L1)))))) (.seq (.region [6] [o0 71 (.fieldA 0 (.t 3)),
 o0 72 (.load none (.t 71)),
 o0 73 (.fieldA 1 (.t 3)),
 o0 74 (.load none (.t 73)),
 o0 75 (.mv (.t 7)),
 o0 76 (.mv (.t 2)),
 o0 77 (.len (.t 76)),
 o0 78 (.bin .add (.t 75) (.t 77)),
 o0 79 (.conv .u64 (.t 78)),
 o0 80 (.call .share 178 [(.t 72),(.t 74),(.c (.int .i64 0)),(.t 79)]),
 o0 6 (.mv (.t 80))]) .ret))))⟩
def x275 : XFun :=
 ⟨[],(.seq (.region [1, 3, 5] [o0 3 (.box 3 (.t 0)),
 o0 5 (.box 2 (.t 2))]) (.seq (.region [1, 3, 5] [o0 6 (.fieldA 0 (.t 3)),
 o0 7 (.load none (.t 6)),
 o0 8 (.fieldA 1 (.t 3)),
 o0 9 (.load none (.t 8)),
 o0 10 (.mv (.t 1)),
 o0 11 (.fieldA 0 (.t 5)),
 o0 12 (.load none (.t 11)),
 o0 13 (.conv .u64 (.t 12)),
 o0 14 (.call .share 178 [(.t 7),(.t 9),(.t 10),(.t 13)])]) (.region [] [o0 15 (.fieldA 0 (.t 3)),
 o0 16 (.load none (.t 15)),
 o0 17 (.fieldA 1 (.t 3)),
 o0 18 (.load none (.t 17)),
 o0 19 (.mv (.t 1)),
 o0 20 (.bin .add (.t 19) (.c (.int .i64 1))),
 o0 21 (.fieldA 1 (.t 5)),
 o0 22 (.load none (.t 21)),
 o0 23 (.conv .u64 (.t 22)),
 o0 24 (.call .share 178 [(.t 16),(.t 18),(.t 20),(.t 23)])])))⟩
def x278 : XFun :=
 ⟨[.tmp 2],(.seq (.region [1] [o0 1 (.box 3 (.t 0)),
 o0 2 (.mv (.c (.slice none 0 0)))]) (.seq (.region [1, 3] [o0 6 (.load (some 3) (.t 1)),
 o0 7 (.call .share 276 [.t 6]),
 o0 5 (.mv (.t 7)),
 o0 8 (.extract (.t 5) 0),
 o0 9 (.extract (.t 5) 1),
 o0 3 (.alloc [(.pointer none),(.int .i64 0),(.int .u8 0)]),
 o2 (.store 3 (.t 3) (.t 8)),
 o0 4 (.mv (.t 9))]) (.seq (.region [2] [o0 10 (.load (some 3) (.t 3)),
 o0 11 (.load (some 3) (.t 1)),
 o0 12 (.call .peek 286 [(.t 11),(.c (.int .i64 0))]),
 o0 13 (.conv .i64 (.t 12)),
 o0 14 (.call .look 284 [(.t 10),(.c (.int .i64 0)),(.t 13)]),
 o0 2 (.mv (.t 14))]) .ret)))⟩
def x752 : XFun :=
 ⟨[.tmp 4],(.seq (.region [0, 1] [o0 4 (.mv (.c (.bool false)))]) (.seq (.region [4] [o0 5 (.mv (.t 0)),
 o0 6 (.mv (.t 1)),
 o0 7 (.call .peek 762 [(.t 5),(.t 6)]),
 o0 8 (.bin .geq (.t 7) (.c (.int .i64 0))),
 o0 4 (.mv (.t 8))]) .ret))⟩
def x613 : XFun :=
 ⟨[.cell 4 (some 3),.tmp 5],(.seq (.region [0, 3, 4] [o0 3 (.box 2 (.t 1)),
 o0 4 (.alloc [(.pointer none),(.int .i64 0),(.int .u8 0)]),
 o0 5 (.mv (.c (.bool false)))]) (.seq (.region [0, 3, 4, 6, 7] [o0 9 (.mv (.t 0)),
 o0 10 (.fieldA 1 (.t 3)),
 o0 11 (.load none (.t 10)),
 o0 12 (.call .peek 171 [(.t 9),(.t 11)]),
 o0 8 (.mv (.t 12)),
 o0 13 (.extract (.t 8) 0),
 o0 14 (.extract (.t 8) 1),
 o0 6 (.mv (.t 13)),
 o0 7 (.mv (.t 14))]) (.seq (.region [4, 5] [o0 15 (.mv (.t 0)),
 o0 16 (.fieldA 1 (.t 3)),
 o0 17 (.load none (.t 16)),
 o0 18 (.fieldA 0 (.t 3)),
 o0 19 (.load none (.t 18)),
 o0 20 (.build [(.pointer none),(.int .i64 0),(.int .u8 0)] [(0, 1,(.t 15)),(1, 1,(.t 17)),(2, 1,(.t 19))]),
 o0 21 (.mv (.t 7)),
 o0 22 (.bin .eql (.t 21) (.c (.int .i64 0))),
 o0 23 (.mv (.t 22)),
 o1 24 23 true (.mv (.t 6)),
 o1 25 23 true (.fieldA 0 (.t 3)),
 o1 26 23 true (.load none (.t 25)),
 o1 27 23 true (.bin .eql (.t 24) (.t 26)),
 o0 28 (.pick (.t 23) (.t 27) (.c (.bool false))),
 o0 29 (.mv (.t 28)),
 o1 30 29 true (.mv (.t 6)),
 o1 31 29 true (.bin .lss (.t 30) (.c (.int .u8 8))),
 o0 32 (.pick (.t 29) (.t 31) (.c (.bool false))),
 o2 (.store 3 (.t 4) (.t 20)),
 o0 5 (.mv (.t 32))]) .ret)))⟩
def x277 : XFun :=
 ⟨[.tmp 2],(.seq (.region [1] [o0 1 (.box 3 (.t 0)),
 o0 2 (.mv (.c (.bool false)))]) (.seq (.region [1, 3, 4] [o0 8 (.load (some 3) (.t 1)),
 o0 9 (.call .peek 281 [.t 8]),
 o0 10 (.load (some 3) (.t 1)),
 o0 11 (.call .peek 286 [(.t 10),(.c (.int .i64 0))]),
 o0 3 (.mv (.t 9)),
 o0 4 (.mv (.t 11))]) (.seq (.seq (.region [1, 3, 4, 13] [o0 12 (.fieldA 2 (.t 1)),
 o0 13 (.load none (.t 12))]) (.block 0 (.seq (.region [1, 3, 4, 13, 14] [o0 15 (.bin .eql (.t 13) (.c (.int .u8 3))),
 o0 14 (.mv (.t 15))]) (.cond (.t 14) (.seq (.region [2] [o0 16 (.mv (.t 3)),
 o0 17 (.bin .gtr (.t 16) (.c (.int .i64 0))),
 o0 18 (.mv (.t 17)),
 o1 19 18 true (.mv (.t 4)),
 o1 20 18 true (.bin .leq (.t 19) (.c (.int .u64 4096))),
 o0 21 (.pick (.t 18) (.t 20) (.c (.bool false))),
 o0 22 (.mv (.t 21)),
 o1 23 22 true (.mv (.t 3)),
 o1 24 22 true (.mv (.t 4)),
 o1 25 22 true (.conv .i64 (.t 24)),
 o1 26 22 true (.bin .add (.t 25) (.c (.int .i64 7))),
 o1 27 22 true (.bin .quo (.t 26) (.c (.int .i64 8))),
 o1 28 22 true (.bin .add (.c (.int .i64 1)) (.t 27)),
 o1 29 22 true (.bin .eql (.t 23) (.t 28)),
 o0 30 (.pick (.t 22) (.t 29) (.c (.bool false))),
 o0 2 (.mv (.t 30))]) .ret) (.seq (.seq (.region [1, 3, 4, 13, 31] [o0 32 (.bin .eql (.t 13) (.c (.int .u8 4))),
 o0 31 (.mv (.t 32))]) (.cond (.t 31) .skip (.region [1, 3, 4, 13, 31] [o0 33 (.bin .eql (.t 13) (.c (.int .u8 5))),
 o0 31 (.mv (.t 33))]))) (.cond (.t 31) (.seq (.region [1, 3, 4, 5] [o0 5 (.mv (.c (.int .u64 65536)))]) (.seq (.seq (.region [1, 3, 4, 5, 36] [o0 34 (.fieldA 2 (.t 1)),
 o0 35 (.load none (.t 34)),
 o0 36 (.bin .eql (.t 35) (.c (.int .u8 5)))]) (.cond (.t 36) (.region [1, 3, 4, 5] [o0 37 (.mv (.t 5)),
 o0 38 (.bin .mul (.t 37) (.c (.int .u64 2))),
 o0 5 (.mv (.t 38))]) .skip)) (.seq (.seq (.region [1, 4, 55] [o0 39 (.mv (.t 3)),
 o0 40 (.bin .neq (.t 39) (.c (.int .i64 2))),
 o0 41 (.mv (.t 40)),
 o1 42 41 false (.mv (.t 4)),
 o1 43 41 false (.mv (.t 5)),
 o1 44 41 false (.bin .gtr (.t 42) (.t 43)),
 o0 45 (.pick (.t 41) (.c (.bool true)) (.t 44)),
 o0 46 (.mv (.t 45)),
 o1 47 46 false (.fieldA 2 (.t 1)),
 o1 48 46 false (.load none (.t 47)),
 o1 49 46 false (.bin .eql (.t 48) (.c (.int .u8 5))),
 o1 50 46 false (.mv (.t 49)),
 o1 51 50 true (.mv (.t 4)),
 o1 52 50 true (.bin .rem (.t 51) (.c (.int .u64 2))),
 o1 53 50 true (.bin .neq (.t 52) (.c (.int .u64 0))),
 o1 54 46 false (.pick (.t 50) (.t 53) (.c (.bool false))),
 o0 55 (.pick (.t 46) (.c (.bool true)) (.t 54))]) (.cond (.t 55) (.seq (.region [2] [o0 2 (.mv (.c (.bool false)))]) .ret) .skip)) (.seq (.seq (.region [1, 4, 58] [o0 56 (.load (some 3) (.t 1)),
 o0 57 (.call .peek 286 [(.t 56),(.c (.int .i64 1))]),
 o0 58 (.bin .eql (.t 57) (.c (.int .u64 0)))]) (.cond (.t 58) (.seq (.region [2] [o0 59 (.mv (.t 4)),
 o0 60 (.bin .eql (.t 59) (.c (.int .u64 0))),
 o0 2 (.mv (.t 60))]) .ret) .skip)) (.seq (.region [4, 6, 7] [o0 62 (.load (some 3) (.t 1)),
 o0 63 (.call .share 276 [.t 62]),
 o0 61 (.mv (.t 63)),
 o0 64 (.extract (.t 61) 0),
 o0 65 (.extract (.t 61) 1),
 o0 6 (.alloc [(.pointer none),(.int .i64 0),(.int .u8 0)]),
 o2 (.store 3 (.t 6) (.t 64)),
 o0 7 (.mv (.t 65))]) (.seq (.region [2] [o0 66 (.mv (.t 7)),
 o0 67 (.mv (.t 66)),
 o1 68 67 true (.load (some 3) (.t 6)),
 o1 69 67 true (.call .peek 281 [.t 68]),
 o1 70 67 true (.bin .rem (.t 69) (.c (.int .i64 2))),
 o1 71 67 true (.bin .eql (.t 70) (.c (.int .i64 0))),
 o0 72 (.pick (.t 67) (.t 71) (.c (.bool false))),
 o0 73 (.mv (.t 72)),
 o1 74 73 true (.mv (.t 4)),
 o1 75 73 true (.load (some 3) (.t 6)),
 o1 76 73 true (.call .peek 281 [.t 75]),
 o1 77 73 true (.bin .quo (.t 76) (.c (.int .i64 2))),
 o1 78 73 true (.conv .u64 (.t 77)),
 o1 79 73 true (.bin .leq (.t 74) (.t 78)),
 o0 80 (.pick (.t 73) (.t 79) (.c (.bool false))),
 o0 2 (.mv (.t 80))]) .ret)))))) (.seq (.region [3, 4, 81] [o0 82 (.bin .eql (.t 13) (.c (.int .u8 6))),
 o0 81 (.mv (.t 82))]) (.cond (.t 81) (.seq (.region [2] [o0 83 (.mv (.t 3)),
 o0 84 (.bin .rem (.t 83) (.c (.int .i64 2))),
 o0 85 (.bin .eql (.t 84) (.c (.int .i64 1))),
 o0 86 (.mv (.t 85)),
 o1 87 86 true (.mv (.t 4)),
 o1 88 86 true (.bin .leq (.t 87) (.c (.int .u64 4611686018427387904))),
 o0 89 (.pick (.t 86) (.t 88) (.c (.bool false))),
 o0 2 (.mv (.t 89))]) .ret) .skip)))))))) (.seq (.region [2] [o0 90 (.mv (.t 3)),
 o0 91 (.bin .eql (.t 90) (.c (.int .i64 2))),
 o0 2 (.mv (.t 91))]) .ret))))⟩
def x614 : XFun :=
 ⟨[.cell 4 (some 3),.tmp 5],(.seq (.region [0, 1, 4] [o0 4 (.alloc [(.pointer none),(.int .i64 0),(.int .u8 0)]),
 o0 5 (.mv (.c (.bool false)))]) (.seq (.region [0, 1, 4, 6, 7] [o0 9 (.mv (.t 0)),
 o0 10 (.mv (.t 1)),
 o0 11 (.call .peek 171 [(.t 9),(.t 10)]),
 o0 8 (.mv (.t 11)),
 o0 12 (.extract (.t 8) 0),
 o0 13 (.extract (.t 8) 1),
 o0 6 (.mv (.t 12)),
 o0 7 (.mv (.t 13))]) (.seq (.region [4, 5] [o0 14 (.mv (.t 0)),
 o0 15 (.mv (.t 1)),
 o0 16 (.build [(.pointer none),(.int .i64 0),(.int .u8 0)] [(0, 1,(.t 14)),(1, 1,(.t 15)),(2, 1,(.c (.int .u8 8)))]),
 o0 17 (.mv (.t 7)),
 o0 18 (.bin .eql (.t 17) (.c (.int .i64 0))),
 o0 19 (.mv (.t 18)),
 o1 20 19 true (.mv (.t 6)),
 o1 21 19 true (.bin .eql (.t 20) (.c (.int .u8 8))),
 o0 22 (.pick (.t 19) (.t 21) (.c (.bool false))),
 o2 (.store 3 (.t 4) (.t 16)),
 o0 5 (.mv (.t 22))]) .ret)))⟩
def x749 : XFun :=
 ⟨[.tmp 4],(.seq (.region [0, 1] [o0 4 (.mv (.c (.bool false)))]) (.seq (.region [4] [o0 5 (.mv (.t 0)),
 o0 6 (.mv (.t 1)),
 o0 7 (.call .share 759 [(.t 5),(.t 6)]),
 o0 8 (.bin .geq (.t 7) (.c (.int .i64 0))),
 o0 4 (.mv (.t 8))]) .ret))⟩
def x607 : XFun :=
 ⟨[.tmp 4],(.seq (.region [1, 2, 3] [o0 3 (.box 2 (.t 0)),
 o0 4 (.mv (.c (.bool false)))]) (.seq (.region [4] [o0 5 (.load none (.t 1)),
 o0 6 (.load none (.t 2)),
 o0 7 (.load (some 2) (.t 3)),
 o0 8 (.callV (.t 5) [(.t 6),(.t 7)]),
 o0 9 (.un .not (.t 8)),
 o0 4 (.mv (.t 9))]) .ret))⟩
def x609L1 : XCode :=
 (.seq (.region [6, 8, 9, 21, 22, 23, 24] [o0 24 (.bin .lss (.t 23) (.t 22))]) (.seq (.cond (.t 24) .skip (.exit 0)) (.seq (.block 1 (.seq (.region [6, 8, 9, 10, 11, 21, 22, 23] [o0 25 (.mv (.t 23)),
 o0 26 (.idxA 2 (.t 21) (.t 23)),
 o0 27 (.load (some 2) (.t 26)),
 o0 11 (.alloc [(.int .u8 0),(.int .i64 0)]),
 o0 10 (.mv (.t 25)),
 o2 (.store 2 (.t 11) (.t 27))]) (.region [6, 8, 9, 21, 22, 23] [o0 28 (.load (some 3) (.t 8)),
 o0 29 (.mv (.t 10)),
 o0 30 (.bin .mul (.c (.int .i64 2)) (.t 29)),
 o0 31 (.load (some 2) (.t 11)),
 o0 32 (.call .share 275 [(.t 28),(.t 30),(.t 31)])]))) (.region [6, 8, 9, 21, 22, 23] [o0 33 (.bin .add (.t 23) (.c (.int .i64 1))),
 o0 23 (.mv (.t 33))]))))
def x609 : XFun :=
 ⟨[.cell 6 (some 3),.tmp 7],(.seq (.region [0, 1, 2, 6] [o0 6 (.alloc [(.pointer none),(.int .i64 0),(.int .u8 0)]),
 o0 7 (.mv (.c (.int .i64 0)))]) (.seq (.region [2, 6, 8, 9] [o0 13 (.mv (.t 0)),
 o0 14 (.mv (.t 1)),
 o0 15 (.bin .mul (.c (.int .i64 2)) (.t 14)),
 o0 16 (.call .share 615 [(.t 13),(.c (.int .u8 8)),(.t 15)]),
 o0 12 (.mv (.t 16)),
 o0 17 (.extract (.t 12) 0),
 o0 18 (.extract (.t 12) 1),
 o0 8 (.alloc [(.pointer none),(.int .i64 0),(.int .u8 0)]),
 o2 (.store 3 (.t 8) (.t 17)),
 o0 9 (.mv (.t 18))]) (.seq (.seq (.region [2, 6, 8, 9, 20] [o0 19 (.mv (.t 9)),
 o0 20 (.bin .eql (.t 19) (.c (.int .i64 0)))]) (.cond (.t 20) (.seq (.region [6, 8, 9, 21, 22, 23] [o0 21 (.mv (.t 2)),
 o0 22 (.len (.t 21)),
 o0 23 (.mv (.c (.int .i64 0)))]) (.block 0 (.loop [6, 8, 9, 21, 22, 23] x609L1))) .skip)) (.seq (.region [6, 7] [o0 34 (.load (some 3) (.t 8)),
 o0 35 (.mv (.t 9)),
 o2 (.store 3 (.t 6) (.t 34)),
 o0 7 (.mv (.t 35))]) .ret))))⟩
def x280 : XFun :=
 ⟨[.tmp 2],(.seq (.region [1] [o0 1 (.box 3 (.t 0)),
 o0 2 (.mv (.c (.int .i64 0)))]) (.seq (.seq (.region [1, 3, 4] [o0 6 (.load (some 3) (.t 1)),
 o0 7 (.call .share 276 [.t 6]),
 o0 5 (.mv (.t 7)),
 o0 8 (.extract (.t 5) 0),
 o0 9 (.extract (.t 5) 1),
 o0 3 (.alloc [(.pointer none),(.int .i64 0),(.int .u8 0)]),
 o2 (.store 3 (.t 3) (.t 8)),
 o0 4 (.mv (.t 9))]) (.seq (.region [3, 15] [o0 10 (.mv (.t 4)),
 o0 11 (.mv (.t 10)),
 o1 12 11 true (.load (some 3) (.t 1)),
 o1 13 11 true (.call .peek 286 [(.t 12),(.c (.int .i64 1))]),
 o1 14 11 true (.bin .neq (.t 13) (.c (.int .u64 0))),
 o0 15 (.pick (.t 11) (.t 14) (.c (.bool false)))]) (.cond (.t 15) (.seq (.region [2] [o0 16 (.load (some 3) (.t 3)),
 o0 17 (.call .peek 281 [.t 16]),
 o0 18 (.bin .quo (.t 17) (.c (.int .i64 2))),
 o0 2 (.mv (.t 18))]) .ret) .skip))) (.seq (.region [2] [o0 2 (.mv (.c (.int .i64 0)))]) .ret)))⟩
def x284L1 : XCode :=
 (.seq (.region [1, 3, 6, 8, 9, 10] [o0 10 (.bin .lss (.t 9) (.t 8))]) (.seq (.cond (.t 10) .skip (.exit 0)) (.seq (.block 1 (.seq (.region [1, 3, 6, 7, 8, 9] [o0 11 (.mv (.t 9)),
 o0 7 (.mv (.t 11))]) (.region [1, 3, 6, 8, 9] [o0 12 (.mv (.t 6)),
 o0 13 (.load (some 3) (.t 3)),
 o0 14 (.mv (.t 1)),
 o0 15 (.mv (.t 7)),
 o0 16 (.bin .mul (.c (.int .i64 2)) (.t 15)),
 o0 17 (.bin .add (.t 14) (.t 16)),
 o0 18 (.call .peek 283 [(.t 13),(.t 17)]),
 o0 19 (.buildSlice 2 [(.int .u8 0),(.int .i64 0)] 1 [(0, 2,(.t 18))]),
 o0 20 (.append 2 16 (.t 12) (.t 19)),
 o0 6 (.mv (.t 20))]))) (.region [1, 3, 6, 8, 9] [o0 21 (.bin .add (.t 9) (.c (.int .i64 1))),
 o0 9 (.mv (.t 21))]))))
def x284 : XFun :=
 ⟨[.tmp 6],(.seq (.region [1, 2, 3, 6] [o0 3 (.box 3 (.t 0)),
 o0 6 (.mv (.c (.slice none 0 0)))]) (.seq (.seq (.region [1, 3, 6, 8, 9] [o0 8 (.mv (.t 2)),
 o0 9 (.mv (.c (.int .i64 0)))]) (.block 0 (.loop [1, 3, 6, 8, 9] x284L1))) (.seq (.region [6] [o0 22 (.mv (.t 6)),
 o0 6 (.mv (.t 22))]) .ret)))⟩
def x762L1 : XCode :=
 (.seq (.region [0, 1, 7, 8, 9] [o0 9 (.bin .lss (.t 8) (.t 7))]) (.seq (.cond (.t 9) .skip (.exit 0)) (.seq (.block 1 (.seq (.region [0, 1, 5, 7, 8] [o0 10 (.mv (.t 8)),
 o0 5 (.mv (.t 10))]) (.seq (.region [0, 1, 5, 7, 8, 16] [o0 11 (.mv (.t 1)),
 o0 12 (.mv (.t 0)),
 o0 13 (.mv (.t 5)),
 o0 14 (.idxA 1 (.t 12) (.t 13)),
 o0 15 (.load none (.t 14)),
 o0 16 (.bin .eql (.t 11) (.t 15))]) (.cond (.t 16) (.seq (.region [4] [o0 17 (.mv (.t 5)),
 o0 4 (.mv (.t 17))]) .ret) .skip)))) (.region [0, 1, 7, 8] [o0 18 (.bin .add (.t 8) (.c (.int .i64 1))),
 o0 8 (.mv (.t 18))]))))
def x762 : XFun :=
 ⟨[.tmp 4],(.seq (.region [0, 1] [o0 4 (.mv (.c (.int .i64 0)))]) (.seq (.seq (.region [0, 1, 7, 8] [o0 6 (.mv (.t 0)),
 o0 7 (.len (.t 6)),
 o0 8 (.mv (.c (.int .i64 0)))]) (.block 0 (.loop [0, 1, 7, 8] x762L1))) (.seq (.region [4] [o0 4 (.mv (.c (.int .i64 (-1))))]) .ret)))⟩
def x171 : XFun :=
 ⟨[.tmp 4,.tmp 5],(.seq (.region [0, 1] [o0 4 (.mv (.c (.int .u8 0))),
 o0 5 (.mv (.c (.int .i64 0)))]) (.seq (.seq (.region [0, 1, 7] [o0 9 (.mv (.t 0)),
 o0 10 (.mv (.t 1)),
 o0 11 (.call .share 184 [(.t 9),(.t 10)]),
 o0 8 (.mv (.t 11)),
 o0 12 (.extract (.t 8) 0),
 o0 13 (.extract (.t 8) 1),
 o0 6 (.mv (.t 12)),
 o0 7 (.mv (.t 13))]) (.seq (.region [0, 1, 7, 15] [o0 14 (.mv (.t 7)),
 o0 15 (.bin .neq (.t 14) (.c (.int .i64 0)))]) (.cond (.t 15) (.seq (.region [4, 5] [o0 16 (.mv (.t 7)),
 o0 4 (.mv (.c (.int .u8 0))),
 o0 5 (.mv (.t 16))]) .ret) .skip))) (.seq (.region [4, 5] [o0 17 (.mv (.t 0)),
 o0 18 (.nilCheck (.t 17)),
 o0 19 (.fieldA 0 (.t 18)),
 o0 20 (.load none (.t 19)),
 o0 21 (.mv (.t 1)),
 o0 22 (.idxA 1 (.t 20) (.t 21)),
 o0 23 (.load none (.t 22)),
 o0 24 (.bin .and (.t 23) (.c (.int .u64 255))),
 o0 25 (.conv .u8 (.t 24)),
 o0 4 (.mv (.t 25)),
 o0 5 (.mv (.c (.int .i64 0)))]) .ret)))⟩
def x281 : XFun :=
 ⟨[.tmp 2],(.seq (.region [1] [o0 1 (.box 3 (.t 0)),
 o0 2 (.mv (.c (.int .i64 0)))]) (.seq (.region [3] [o0 6 (.fieldA 0 (.t 1)),
 o0 7 (.load none (.t 6)),
 o0 8 (.fieldA 1 (.t 1)),
 o0 9 (.load none (.t 8)),
 o0 10 (.call .peek 175 [(.t 7),(.t 9)]),
 o0 5 (.mv (.t 10)),
 o0 11 (.extract (.t 5) 0),
 o0 12 (.extract (.t 5) 1),
 o0 3 (.mv (.t 11)),
 o0 4 (.mv (.t 12))]) (.seq (.region [2] [o0 13 (.mv (.t 3)),
 o0 2 (.mv (.t 13))]) .ret)))⟩
def x759L1 : XCode :=
 (.seq (.region [0, 1, 7, 8, 9] [o0 9 (.bin .lss (.t 8) (.t 7))]) (.seq (.cond (.t 9) .skip (.exit 0)) (.seq (.block 1 (.seq (.region [0, 1, 5, 7, 8] [o0 10 (.mv (.t 8)),
 o0 5 (.mv (.t 10))]) (.seq (.region [0, 1, 5, 7, 8, 16] [o0 11 (.mv (.t 1)),
 o0 12 (.mv (.t 0)),
 o0 13 (.mv (.t 5)),
 o0 14 (.idxA 2 (.t 12) (.t 13)),
 o0 15 (.load (some 2) (.t 14)),
 o0 16 (.callP (.t 11) [.t 15])]) (.cond (.t 16) (.seq (.region [4] [o0 17 (.mv (.t 5)),
 o0 4 (.mv (.t 17))]) .ret) .skip)))) (.region [0, 1, 7, 8] [o0 18 (.bin .add (.t 8) (.c (.int .i64 1))),
 o0 8 (.mv (.t 18))]))))
def x759 : XFun :=
 ⟨[.tmp 4],(.seq (.region [0, 1] [o0 4 (.mv (.c (.int .i64 0)))]) (.seq (.seq (.region [0, 1, 7, 8] [o0 6 (.mv (.t 0)),
 o0 7 (.len (.t 6)),
 o0 8 (.mv (.c (.int .i64 0)))]) (.block 0 (.loop [0, 1, 7, 8] x759L1))) (.seq (.region [4] [o0 4 (.mv (.c (.int .i64 (-1))))]) .ret)))⟩
end Go.EX


set_option linter.unusedVariables false
set_option linter.unusedSimpArgs false
namespace Go.EX
def code3 : Nat → Option XFun
 | 169 => some x169
 | 171 => some x171
 | 174 => some x174
 | 175 => some x175
 | 176 => some x176
 | 177 => some x177
 | 178 => some x178
 | 182 => some x182
 | 183 => some x183
 | 184 => some x184
 | 185 => some x185
 | 186 => some x186
 | 274 => some x274
 | 275 => some x275
 | 276 => some x276
 | 277 => some x277
 | 278 => some x278
 | 279 => some x279
 | 280 => some x280
 | 281 => some x281
 | 282 => some x282
 | 283 => some x283
 | 284 => some x284
 | 286 => some x286
 | 428 => some x428
 | 429 => some x429
 | 430 => some x430
 | 431 => some x431
 | 433 => some x433
 | 434 => some x434
 | 436 => some x436
 | 437 => some x437
 | 567 => some x567
 | 592 => some x592
 | 593 => some x593
 | 594 => some x594
 | 597 => some x597
 | 598 => some x598
 | 599 => some x599
 | 602 => some x602
 | 603 => some x603
 | 605 => some x605
 | 606 => some x606
 | 607 => some x607
 | 609 => some x609
 | 610 => some x610
 | 611 => some x611
 | 612 => some x612
 | 613 => some x613
 | 614 => some x614
 | 615 => some x615
 | 616 => some x616
 | 617 => some x617
 | 618 => some x618
 | 749 => some x749
 | 752 => some x752
 | 759 => some x759
 | 762 => some x762
 | _ => none
theorem zcj : code3 yieldNo = none := by
 unfold code3
 split <;> first | (rename_i h; exact absurd h (by decide)) | rfl
end Go.EX


namespace Go.Proofs.Ytdmjigplboafjaa
open Go.EX
def gids : List Nat := [100000, 100001, 703, 433, 428, 436, 599, 434, 176, 605, 594, 603, 592, 437, 429, 430, 431, 598, 602, 593, 567, 611, 615, 178, 618, 597, 610, 282, 286, 616, 276, 274, 283, 606, 612, 617, 279, 275, 278, 177, 169, 184, 752, 613, 277, 174, 614, 749, 607, 609, 280, 284, 182, 185, 183, 762, 171, 281, 759, 186, 175, 100061, 100062, 100063, 100064, 100065, 100066, 100067, 100068, 100069, 100070, 100071, 100072, 100073, 100074, 100075, 100076, 100077]
def num (f : FuncId) : Nat := (gids[f]?).getD (100000 + f)
theorem ok3 : FunOK Try.prog num 3 x433 := .of Try.func3 (by kernel_rfl) (by kernel_rfl) (by kernel_rfl) (by kernel_rfl) (by kernel_rfl)
theorem ok4 : FunOK Try.prog num 4 x428 := .of Try.func4 (by kernel_rfl) (by kernel_rfl) (by kernel_rfl) (by kernel_rfl) (by kernel_rfl)
theorem ok5 : FunOK Try.prog num 5 x436 := .of Try.func5 (by kernel_rfl) (by kernel_rfl) (by kernel_rfl) (by kernel_rfl) (by kernel_rfl)
theorem ok6 : FunOK Try.prog num 6 x599 := .of Try.func6 (by kernel_rfl) (by kernel_rfl) (by kernel_rfl) (by kernel_rfl) (by kernel_rfl)
theorem ok7 : FunOK Try.prog num 7 x434 := .of Try.func7 (by kernel_rfl) (by kernel_rfl) (by kernel_rfl) (by kernel_rfl) (by kernel_rfl)
theorem ok8 : FunOK Try.prog num 8 x176 := .of Try.func8 (by kernel_rfl) (by kernel_rfl) (by kernel_rfl) (by kernel_rfl) (by kernel_rfl)
theorem ok9 : FunOK Try.prog num 9 x605 := .of Try.func9 (by kernel_rfl) (by kernel_rfl) (by kernel_rfl) (by kernel_rfl) (by kernel_rfl)
theorem ok10 : FunOK Try.prog num 10 x594 := .of Try.func10 (by kernel_rfl) (by kernel_rfl) (by kernel_rfl) (by kernel_rfl) (by kernel_rfl)
theorem ok11 : FunOK Try.prog num 11 x603 := .of Try.func11 (by kernel_rfl) (by kernel_rfl) (by kernel_rfl) (by kernel_rfl) (by kernel_rfl)
theorem ok12 : FunOK Try.prog num 12 x592 := .of Try.func12 (by kernel_rfl) (by kernel_rfl) (by kernel_rfl) (by kernel_rfl) (by kernel_rfl)
theorem ok13 : FunOK Try.prog num 13 x437 := .of Try.func13 (by kernel_rfl) (by kernel_rfl) (by kernel_rfl) (by kernel_rfl) (by kernel_rfl)
theorem ok14 : FunOK Try.prog num 14 x429 := .of Try.func14 (by kernel_rfl) (by kernel_rfl) (by kernel_rfl) (by kernel_rfl) (by kernel_rfl)
theorem ok15 : FunOK Try.prog num 15 x430 := .of Try.func15 (by kernel_rfl) (by kernel_rfl) (by kernel_rfl) (by kernel_rfl) (by kernel_rfl)
theorem ok16 : FunOK Try.prog num 16 x431 := .of Try.func16 (by kernel_rfl) (by kernel_rfl) (by kernel_rfl) (by kernel_rfl) (by kernel_rfl)
theorem ok17 : FunOK Try.prog num 17 x598 := .of Try.func17 (by kernel_rfl) (by kernel_rfl) (by kernel_rfl) (by kernel_rfl) (by kernel_rfl)
theorem ok18 : FunOK Try.prog num 18 x602 := .of Try.func18 (by kernel_rfl) (by kernel_rfl) (by kernel_rfl) (by kernel_rfl) (by kernel_rfl)
theorem ok19 : FunOK Try.prog num 19 x593 := .of Try.func19 (by kernel_rfl) (by kernel_rfl) (by kernel_rfl) (by kernel_rfl) (by kernel_rfl)
theorem ok20 : FunOK Try.prog num 20 x567 := .of Try.func20 (by kernel_rfl) (by kernel_rfl) (by kernel_rfl) (by kernel_rfl) (by kernel_rfl)
theorem ok21 : FunOK Try.prog num 21 x611 := .of Try.func21 (by kernel_rfl) (by kernel_rfl) (by kernel_rfl) (by kernel_rfl) (by kernel_rfl)
theorem ok22 : FunOK Try.prog num 22 x615 := .of Try.func22 (by kernel_rfl) (by kernel_rfl) (by kernel_rfl) (by kernel_rfl) (by kernel_rfl)
theorem ok23 : FunOK Try.prog num 23 x178 := .of Try.func23 (by kernel_rfl) (by kernel_rfl) (by kernel_rfl) (by kernel_rfl) (by kernel_rfl)
theorem ok24 : FunOK Try.prog num 24 x618 := .of Try.func24 (by kernel_rfl) (by kernel_rfl) (by kernel_rfl) (by kernel_rfl) (by kernel_rfl)
theorem ok25 : FunOK Try.prog num 25 x597 := .of Try.func25 (by kernel_rfl) (by kernel_rfl) (by kernel_rfl) (by kernel_rfl) (by kernel_rfl)
theorem ok26 : FunOK Try.prog num 26 x610 := .of Try.func26 (by kernel_rfl) (by kernel_rfl) (by kernel_rfl) (by kernel_rfl) (by kernel_rfl)
theorem ok27 : FunOK Try.prog num 27 x282 := .of Try.func27 (by kernel_rfl) (by kernel_rfl) (by kernel_rfl) (by kernel_rfl) (by kernel_rfl)
theorem ok28 : FunOK Try.prog num 28 x286 := .of Try.func28 (by kernel_rfl) (by kernel_rfl) (by kernel_rfl) (by kernel_rfl) (by kernel_rfl)
theorem ok29 : FunOK Try.prog num 29 x616 := .of Try.func29 (by kernel_rfl) (by kernel_rfl) (by kernel_rfl) (by kernel_rfl) (by kernel_rfl)
theorem ok30 : FunOK Try.prog num 30 x276 := .of Try.func30 (by kernel_rfl) (by kernel_rfl) (by kernel_rfl) (by kernel_rfl) (by kernel_rfl)
theorem ok31 : FunOK Try.prog num 31 x274 := .of Try.func31 (by kernel_rfl) (by kernel_rfl) (by kernel_rfl) (by kernel_rfl) (by kernel_rfl)
theorem ok32 : FunOK Try.prog num 32 x283 := .of Try.func32 (by kernel_rfl) (by kernel_rfl) (by kernel_rfl) (by kernel_rfl) (by kernel_rfl)
theorem ok33 : FunOK Try.prog num 33 x606 := .of Try.func33 (by kernel_rfl) (by kernel_rfl) (by kernel_rfl) (by kernel_rfl) (by kernel_rfl)
theorem ok34 : FunOK Try.prog num 34 x612 := .of Try.func34 (by kernel_rfl) (by kernel_rfl) (by kernel_rfl) (by kernel_rfl) (by kernel_rfl)
theorem ok35 : FunOK Try.prog num 35 x617 := .of Try.func35 (by kernel_rfl) (by kernel_rfl) (by kernel_rfl) (by kernel_rfl) (by kernel_rfl)
theorem ok36 : FunOK Try.prog num 36 x279 := .of Try.func36 (by kernel_rfl) (by kernel_rfl) (by kernel_rfl) (by kernel_rfl) (by kernel_rfl)
theorem ok37 : FunOK Try.prog num 37 x275 := .of Try.func37 (by kernel_rfl) (by kernel_rfl) (by kernel_rfl) (by kernel_rfl) (by kernel_rfl)
theorem ok38 : FunOK Try.prog num 38 x278 := .of Try.func38 (by kernel_rfl) (by kernel_rfl) (by kernel_rfl) (by kernel_rfl) (by kernel_rfl)
theorem ok39 : FunOK Try.prog num 39 x177 := .of Try.func39 (by kernel_rfl) (by kernel_rfl) (by kernel_rfl) (by kernel_rfl) (by kernel_rfl)
theorem ok40 : FunOK Try.prog num 40 x169 := .of Try.func40 (by kernel_rfl) (by kernel_rfl) (by kernel_rfl) (by kernel_rfl) (by kernel_rfl)
theorem ok41 : FunOK Try.prog num 41 x184 := .of Try.func41 (by kernel_rfl) (by kernel_rfl) (by kernel_rfl) (by kernel_rfl) (by kernel_rfl)
theorem ok42 : FunOK Try.prog num 42 x752 := .of Try.func42 (by kernel_rfl) (by kernel_rfl) (by kernel_rfl) (by kernel_rfl) (by kernel_rfl)
theorem ok43 : FunOK Try.prog num 43 x613 := .of Try.func43 (by kernel_rfl) (by kernel_rfl) (by kernel_rfl) (by kernel_rfl) (by kernel_rfl)
theorem ok44 : FunOK Try.prog num 44 x277 := .of Try.func44 (by kernel_rfl) (by kernel_rfl) (by kernel_rfl) (by kernel_rfl) (by kernel_rfl)
theorem ok45 : FunOK Try.prog num 45 x174 := .of Try.func45 (by kernel_rfl) (by kernel_rfl) (by kernel_rfl) (by kernel_rfl) (by kernel_rfl)
theorem ok46 : FunOK Try.prog num 46 x614 := .of Try.func46 (by kernel_rfl) (by kernel_rfl) (by kernel_rfl) (by kernel_rfl) (by kernel_rfl)
theorem ok47 : FunOK Try.prog num 47 x749 := .of Try.func47 (by kernel_rfl) (by kernel_rfl) (by kernel_rfl) (by kernel_rfl) (by kernel_rfl)
theorem ok48 : FunOK Try.prog num 48 x607 := .of Try.func48 (by kernel_rfl) (by kernel_rfl) (by kernel_rfl) (by kernel_rfl) (by kernel_rfl)
theorem ok49 : FunOK Try.prog num 49 x609 := .of Try.func49 (by kernel_rfl) (by kernel_rfl) (by kernel_rfl) (by kernel_rfl) (by kernel_rfl)
theorem ok50 : FunOK Try.prog num 50 x280 := .of Try.func50 (by kernel_rfl) (by kernel_rfl) (by kernel_rfl) (by kernel_rfl) (by kernel_rfl)
theorem ok51 : FunOK Try.prog num 51 x284 := .of Try.func51 (by kernel_rfl) (by kernel_rfl) (by kernel_rfl) (by kernel_rfl) (by kernel_rfl)
theorem ok52 : FunOK Try.prog num 52 x182 := .of Try.func52 (by kernel_rfl) (by kernel_rfl) (by kernel_rfl) (by kernel_rfl) (by kernel_rfl)
theorem ok53 : FunOK Try.prog num 53 x185 := .of Try.func53 (by kernel_rfl) (by kernel_rfl) (by kernel_rfl) (by kernel_rfl) (by kernel_rfl)
theorem ok54 : FunOK Try.prog num 54 x183 := .of Try.func54 (by kernel_rfl) (by kernel_rfl) (by kernel_rfl) (by kernel_rfl) (by kernel_rfl)
theorem ok55 : FunOK Try.prog num 55 x762 := .of Try.func55 (by kernel_rfl) (by kernel_rfl) (by kernel_rfl) (by kernel_rfl) (by kernel_rfl)
theorem ok56 : FunOK Try.prog num 56 x171 := .of Try.func56 (by kernel_rfl) (by kernel_rfl) (by kernel_rfl) (by kernel_rfl) (by kernel_rfl)
theorem ok57 : FunOK Try.prog num 57 x281 := .of Try.func57 (by kernel_rfl) (by kernel_rfl) (by kernel_rfl) (by kernel_rfl) (by kernel_rfl)
theorem ok58 : FunOK Try.prog num 58 x759 := .of Try.func58 (by kernel_rfl) (by kernel_rfl) (by kernel_rfl) (by kernel_rfl) (by kernel_rfl)
theorem ok59 : FunOK Try.prog num 59 x186 := .of Try.func59 (by kernel_rfl) (by kernel_rfl) (by kernel_rfl) (by kernel_rfl) (by kernel_rfl)
theorem ok60 : FunOK Try.prog num 60 x175 := .of Try.func60 (by kernel_rfl) (by kernel_rfl) (by kernel_rfl) (by kernel_rfl) (by kernel_rfl)
abbrev FnAt (f : Nat) : Prop := ∀ xf, code3 (num f) = some xf → FunOK Try.prog num f xf
theorem hit {n : Nat} {x : XFun} (e : code3 (num n) = some x) (k : FunOK Try.prog num n x) (r : ∀ f, f < n → FnAt f) : ∀ f, f < n + 1 → FnAt f := fun f h xf hx => by
 rcases Nat.lt_or_eq_of_le (Nat.le_of_lt_succ h) with h | rfl
 ·exact r f h xf hx
 ·rw [e] at hx; cases hx; exact k
theorem nix {n : Nat} (e : code3 (num n) = none) (r : ∀ f, f < n → FnAt f) : ∀ f, f < n + 1 → FnAt f := fun f h xf hx => by
 rcases Nat.lt_or_eq_of_le (Nat.le_of_lt_succ h) with h | rfl
 ·exact r f h xf hx
 ·rw [e] at hx; cases hx
theorem upto20 : ∀ f, f < 20 → FnAt f :=
 hit (by kernel_rfl) ok19 <|
 hit (by kernel_rfl) ok18 <|
 hit (by kernel_rfl) ok17 <|
 hit (by kernel_rfl) ok16 <|
 hit (by kernel_rfl) ok15 <|
 hit (by kernel_rfl) ok14 <|
 hit (by kernel_rfl) ok13 <|
 hit (by kernel_rfl) ok12 <|
 hit (by kernel_rfl) ok11 <|
 hit (by kernel_rfl) ok10 <|
 hit (by kernel_rfl) ok9 <|
 hit (by kernel_rfl) ok8 <|
 hit (by kernel_rfl) ok7 <|
 hit (by kernel_rfl) ok6 <|
 hit (by kernel_rfl) ok5 <|
 hit (by kernel_rfl) ok4 <|
 hit (by kernel_rfl) ok3 <|
 nix (by kernel_rfl) <|
 nix (by kernel_rfl) <|
 nix (by kernel_rfl) (fun f h => absurd h (Nat.not_lt_zero f))
theorem upto40 : ∀ f, f < 40 → FnAt f :=
 hit (by kernel_rfl) ok39 <|
 hit (by kernel_rfl) ok38 <|
 hit (by kernel_rfl) ok37 <|
 hit (by kernel_rfl) ok36 <|
 hit (by kernel_rfl) ok35 <|
 hit (by kernel_rfl) ok34 <|
 hit (by kernel_rfl) ok33 <|
 hit (by kernel_rfl) ok32 <|
 hit (by kernel_rfl) ok31 <|
 hit (by kernel_rfl) ok30 <|
 hit (by kernel_rfl) ok29 <|
 hit (by kernel_rfl) ok28 <|
 hit (by kernel_rfl) ok27 <|
 hit (by kernel_rfl) ok26 <|
 hit (by kernel_rfl) ok25 <|
 hit (by kernel_rfl) ok24 <|
 hit (by kernel_rfl) ok23 <|
 hit (by kernel_rfl) ok22 <|
 hit (by kernel_rfl) ok21 <|
 hit (by kernel_rfl) ok20 upto20
theorem upto60 : ∀ f, f < 60 → FnAt f :=
 hit (by kernel_rfl) ok59 <|
 hit (by kernel_rfl) ok58 <|
 hit (by kernel_rfl) ok57 <|
 hit (by kernel_rfl) ok56 <|
 hit (by kernel_rfl) ok55 <|
 hit (by kernel_rfl) ok54 <|
 hit (by kernel_rfl) ok53 <|
 hit (by kernel_rfl) ok52 <|
 hit (by kernel_rfl) ok51 <|
 hit (by kernel_rfl) ok50 <|
 hit (by kernel_rfl) ok49 <|
 hit (by kernel_rfl) ok48 <|
 hit (by kernel_rfl) ok47 <|
 hit (by kernel_rfl) ok46 <|
 hit (by kernel_rfl) ok45 <|
 hit (by kernel_rfl) ok44 <|
 hit (by kernel_rfl) ok43 <|
 hit (by kernel_rfl) ok42 <|
 hit (by kernel_rfl) ok41 <|
 hit (by kernel_rfl) ok40 upto40
theorem upto78 : ∀ f, f < 78 → FnAt f :=
 nix (by kernel_rfl) <|
 nix (by kernel_rfl) <|
 nix (by kernel_rfl) <|
 nix (by kernel_rfl) <|
 nix (by kernel_rfl) <|
 nix (by kernel_rfl) <|
 nix (by kernel_rfl) <|
 nix (by kernel_rfl) <|
 nix (by kernel_rfl) <|
 nix (by kernel_rfl) <|
 nix (by kernel_rfl) <|
 nix (by kernel_rfl) <|
 nix (by kernel_rfl) <|
 nix (by kernel_rfl) <|
 nix (by kernel_rfl) <|
 nix (by kernel_rfl) <|
 nix (by kernel_rfl) <|
 hit (by kernel_rfl) ok60 upto60
theorem fns (f : FuncId) (xf : XFun) (h : code3 (num f) = some xf) : FunOK Try.prog num f xf := by
 by_cases hf : f < 78
 ·exact upto78 f hf xf h
 ·have hn : num f = 100000 + f := by
   unfold num
   rw [List.getElem?_eq_none (by rw [show gids.length = 78 from by kernel_rfl]; simp only [FuncId] at *; omega)]; rfl
  rw [hn] at h
  unfold code3 at h
  split at h <;> first | (exfalso; simp only [FuncId] at *; omega) | cases h
theorem nz (f : FuncId) : num f ≠ yieldNo := by
 by_cases hf : f < 78
 ·exact (by decide +kernel : ∀ f : Fin 78, num f.val ≠ yieldNo) ⟨f, hf⟩
 ·have hn : num f = 100000 + f := by
   unfold num
   rw [List.getElem?_eq_none (by rw [show gids.length = 78 from by kernel_rfl]; simp only [FuncId] at *; omega)]; rfl
  rw [hn, yieldNo]
  simp only [FuncId] at *; omega
theorem runs : Runs Try.prog (Names.of Try.prog num) code3 (fun _ _ _ => none) := ⟨by kernel_rfl, fns, zjh, nz, zcj, fun _ _ _ _ _ _ => Iff.rfl, fun _ _ _ h => h, fun _ h1 h2 => ⟨h1, h2⟩⟩
end Go.Proofs.Ytdmjigplboafjaa


set_option linter.unusedVariables false
set_option linter.unusedSimpArgs false
namespace Go.EX
attribute [simp] List.range_succ funOut zc9 zc7 zc6 XO.unlit XOp.unlit zc8 zc3 zc4 zda zc2 blockOut andThen exOps exOne exOp Env.ev Env.get Env.keep enter AV.cells fresh loadAt getCells getCellsI valBin boolBin intBin shiftBin strBin valUn intOf bndOf bounds
 storeAt imms leave resOf wrapRes order reach Mem.refs AObj.refs AV.refs AV.refs.refsL Mem.pickAll AObj.ren AV.ren AV.ren.renL place fillAll mkObj imZ sameCells St.tidy Env.roots Env.ren AV.plain1 AV.plain2 AV.plain AV.own1 AV.own2 AV.own IV.plain AObj.own AObj.live AV.isImm exView exOwn exShare shareOk AObj.isFix exPeek exLook frz frz.frz1 frzV AObj.moved AObj.orMoved shareAt St.scrub isKeyAV zeroAV
@[simp] theorem lenOf_nil : lenOf (.imm (.val (.slice none 0 0))) = some 0 := rfl
@[simp] theorem lenOf_slice (row : List IV) (off len : Nat) (cap : Option Nat) : lenOf (.imm (.slice row off len cap)) = some len := rfl
@[simp] theorem lenOf_osl (id off sz len : Nat) (cap : Option Nat) : lenOf (.osl id off sz len cap) = some len := rfl
@[simp] theorem capOf_slice (row : List IV) (off len : Nat) (cap : Option Nat) : capOf (.imm (.slice row off len cap)) = cap := rfl
@[simp] theorem capOf_osl (id off sz len : Nat) (cap : Option Nat) : capOf (.osl id off sz len cap) = cap := rfl
@[simp] theorem isNil_slice (row : List IV) (off len : Nat) (cap : Option Nat) : isNil (.imm (.slice row off len cap)) = some false := rfl
@[simp] theorem isNil_ptr (row : List IV) (off : Nat) : isNil (.imm (.ptr row off)) = some false := rfl
@[simp] theorem isNil_osl (id off sz len : Nat) (cap : Option Nat) : isNil (.osl id off sz len cap) = some false := rfl
@[simp] theorem isNil_optr (id off : Nat) : isNil (.optr id off) = some false := rfl
@[simp] theorem isNil_omap (id : Nat) : isNil (.omap id) = some false := rfl
@[simp] theorem isNil_pnone : isNil (.imm (.val (.pointer none))) = some true := rfl
@[simp] theorem isNilK_snone : isNilK 0 (.imm (.val (.slice none 0 0))) = some true := rfl
@[simp] theorem isNilK_slice (row : List IV) (off len : Nat) (cap : Option Nat) : isNilK 0 (.imm (.slice row off len cap)) = some false := rfl
@[simp] theorem isNilK_osl (id off sz len : Nat) (cap : Option Nat) : isNilK 0 (.osl id off sz len cap) = some false := rfl
@[simp] theorem isNilK_pnone : isNilK 1 (.imm (.val (.pointer none))) = some true := rfl
@[simp] theorem isNilK_ptr (row : List IV) (off : Nat) : isNilK 1 (.imm (.ptr row off)) = some false := rfl
@[simp] theorem isNilK_optr (id off : Nat) : isNilK 1 (.optr id off) = some false := rfl
@[simp] theorem int_beq (a b : Int) : (a == b) = decide (a = b) := by by_cases h : a = b <;> simp [h]
theorem zb2 {a b : ByteArray} (h : a.toList = b.toList) : a = b := by
 have e : ∀ c : ByteArray, c.toList = c.data.toList := ByteArray.toList_eq
 rw [e, e] at h
 cases a; cases b
 simp at h
 exact congrArg ByteArray.mk h
@[simp] theorem bytes_beq (a b : ByteArray) : (a.toList == b.toList) = decide (a = b) := by
 by_cases h : a = b
 ·subst h; simp
 ·have : a.toList ≠ b.toList := fun e => h (zb2 e)
  simp [h, this]
@[simp] theorem cut_zero {β : Type} (l : List β) : cut l 0 0 = some [] := by simp [cut]
@[simp] theorem cut_cons_zero {β : Type} (x : β) (l : List β) (n : Nat) : cut (x :: l) 0 (n + 1) = (cut l 0 n).map (x :: ·) := by
 simp only [cut, List.drop_zero, List.take_succ_cons, List.length_cons]
 by_cases h : (l.take n).length = n
 ·rw [if_pos h, if_pos (by omega)]; rfl
 ·rw [if_neg h, if_neg (by omega)]; rfl
@[simp] theorem cut_cons_succ {β : Type} (x : β) (l : List β) (o n : Nat) : cut (x :: l) (o + 1) n = cut l o n := by simp [cut]
@[simp] theorem setAll_nil {β : Type} (l : List β) (o : Nat) : setAll l o [] = l := rfl
@[simp] theorem setAll_cons_succ {β : Type} (x : β) : ∀ (ys l : List β) (o : Nat), setAll (x :: l) (o + 1) ys = x :: setAll l o ys
 | [], l, o => rfl
 | y :: ys, l, o => by rw [setAll, List.set_cons_succ, setAll_cons_succ x ys]; rfl
@[simp] theorem setAll_cons_zero {β : Type} (x y : β) (l ys : List β) : setAll (x :: l) 0 (y :: ys) = y :: setAll l 0 ys := by
 rw [setAll, List.set_cons_zero, setAll_cons_succ]
@[simp] theorem imms_imm : ∀ (l : List IV), imms (l.map .imm) = some l
 | [] => rfl
 | x :: l => by simp [imms, imms_imm l]
@[simp] theorem copies_0 {β : Type} (l : List β) : copies 0 l = [] := rfl
@[simp] theorem copies_1 {β : Type} (l : List β) : copies 1 l = l := by simp [copies]
@[simp] theorem copies_2 {β : Type} (l : List β) : copies 2 l = l ++ l := by simp [copies]
@[simp] theorem copies_3 {β : Type} (l : List β) : copies 3 l = l ++ (l ++ l) := by simp [copies]
@[simp] theorem copies_4 {β : Type} (l : List β) : copies 4 l = l ++ (l ++ (l ++ l)) := by simp [copies]
def Ty.row {α : Type} (t : Ty α) (xs : List α) : List IV := xs.flatMap t.enc
abbrev nilS : AV := .imm (.val (.slice none 0 0))
abbrev int64 (n : Int) : AV := .imm (.val (.int .i64 n))
abbrev avb (b : Bool) : AV := .imm (.val (.bool b))
theorem zic {code : Nat → Option XFun} {ext : Calls'} {keep : List Nat} {b : XCode} (I : Nat → St → Prop) (Q : XExit → St → Prop)
  (h : ∀ n s, I n s → ∃ e s', den code ext b (s.tidy keep) = some (e, s') ∧ ((e = .normal ∧ ∃ m, m < n ∧ I m s') ∨ (e ≠ .normal ∧ Q e s'))) : ∀ n s, I n s → ∃ e s', den code ext (.loop keep b) s = some (e, s') ∧ e ≠ .normal ∧ Q e s' := by
 intro n
 induction n using Nat.strongRecOn with
 | ind n ih =>
  intro s hs
  obtain ⟨e, s', h1, h2⟩ := h n s hs
  rw [zc5, h1]
  rcases h2 with ⟨rfl, m, hm, hI⟩ | ⟨hne, hq⟩
  ·exact ih m hm s' hI
  ·refine ⟨e, s', ?_, hne, hq⟩
   cases e with
   | normal => exact absurd rfl hne
   | exit id => rfl
   | ret => rfl
theorem wrapI64 {x : Int} (h1 : -9223372036854775808 ≤ x) (h2 : x ≤ 9223372036854775807) : IntKind.wrap .i64 x = x := by
 simp only [IntKind.wrap, IntKind.signed, IntKind.bits]
 simp
 omega
theorem wrapU8 {x : Int} (h1 : 0 ≤ x) (h2 : x ≤ 255) : IntKind.wrap .u8 x = x := by
 simp only [IntKind.wrap, IntKind.signed, IntKind.bits]
 simp
 omega
theorem wrapU64 {x : Int} (h1 : 0 ≤ x) (h2 : x ≤ 18446744073709551615) : IntKind.wrap .u64 x = x := by
 simp only [IntKind.wrap, IntKind.signed, IntKind.bits]
 simp
 omega
theorem wfI64 {n : Int} : (tInt .i64).wf n ↔ -9223372036854775808 ≤ n ∧ n ≤ 9223372036854775807 := by
 simp [tInt, Lit.wf, IntKind.min, IntKind.max, IntKind.signed, IntKind.bits]
section
variable {α : Type} {t : Ty α} {iv : IV} {xs : List α}
theorem zmf (h : Reads t iv xs) : lenOf (.imm iv) = some xs.length := by
 obtain ⟨_, _, ⟨rfl, rfl⟩ | ⟨row, off, cap, rfl, _⟩⟩ := h
 ·rfl
 ·rfl
theorem zcz {β : Type} {l : List β} {o n : Nat} {r : List β} (h : cut l o n = some r) : r = (l.drop o).take n ∧ r.length = n := by
 unfold cut at h
 dsimp only at h
 split at h
 ·rename_i h1; cases h; exact ⟨rfl, h1⟩
 ·cases h
theorem cut_mk {β : Type} {l : List β} {o n : Nat} {r : List β} (h : (l.drop o).take n = r) (hl : r.length = n) : cut l o n = some r := by
 unfold cut
 dsimp only
 rw [h, if_pos hl]
theorem zcu {β : Type} {l : List β} {o n : Nat} {r : List β} (h : cut l o n = some r) {a b : Nat} (hab : a + b ≤ n) : cut l (o + a) b = cut r a b := by
 obtain ⟨rfl, hl⟩ := zcz h
 unfold cut
 dsimp only
 rw [List.drop_take, List.drop_drop, List.take_take]
 have : min b (n - a) = b := by omega
 rw [this]
theorem zfh (h0 : ∀ x, (t.enc x).length = t.sz) : ∀ (xs : List α) (i k : Nat), i + k ≤ xs.length → cut (xs.flatMap t.enc) (i * t.sz) (k * t.sz) = some (((xs.drop i).take k).flatMap t.enc) := by
 intro xs i k hk
 refine cut_mk ?_ ?_
 ·have hdrop : ∀ (i : Nat) (l : List α), (l.flatMap t.enc).drop (i * t.sz) = (l.drop i).flatMap t.enc := by
   intro i
   induction i with
   | zero => intro l; simp
   | succ i ih =>
    intro l
    cases l with
    | nil => simp
    | cons x l =>
     rw [List.flatMap_cons, Nat.add_mul, Nat.one_mul, Nat.add_comm, List.drop_append]
     have hx := h0 x
     rw [List.drop_eq_nil_of_le (by omega)]
     have : t.sz + i * t.sz - (t.enc x).length = i * t.sz := by omega
     rw [this, ih]; simp
  have htake : ∀ (k : Nat) (l : List α), (l.flatMap t.enc).take (k * t.sz) = (l.take k).flatMap t.enc := by
   intro k
   induction k with
   | zero => intro l; simp
   | succ i ih =>
    intro l
    cases l with
    | nil => simp
    | cons x l =>
     rw [List.flatMap_cons, Nat.add_mul, Nat.one_mul, Nat.add_comm, List.take_append]
     have hx := h0 x
     rw [List.take_of_length_le (by omega)]
     have : t.sz + i * t.sz - (t.enc x).length = i * t.sz := by omega
     rw [this, ih]; simp
  rw [hdrop, htake]
 ·rw [zfj _ _ h0]
  simp only [List.length_take, List.length_drop]
  congr 1
  omega
theorem znj (t : Ty α) (xs : List α) : (t.row xs).length = xs.length * t.sz := zfj _ _ t.len xs
theorem znl (t : Ty α) (xs : List α) (x : α) : t.row xs ++ t.enc x = t.row (xs ++ [x]) := by simp [Ty.row]
theorem zni (t : Ty α) (xs ys : List α) : t.row (xs ++ ys) = t.row xs ++ t.row ys := by simp [Ty.row]
theorem zfm {i : Nat} {x : α} (hx : xs[i]? = some x) : cut (t.row xs) (i * t.sz) t.sz = some (t.enc x) := by
 obtain ⟨hi, hxi⟩ := List.getElem?_eq_some_iff.1 hx
 have := zfh t.len xs i 1 hi
 rw [Nat.one_mul] at this
 rw [Ty.row, this, List.drop_eq_getElem_cons hi, hxi]
 simp
theorem zmg (h : Reads t iv xs) {i : Nat} {x : α} (hx : xs[i]? = some x) : ∃ row off cap, iv = .slice row off xs.length cap ∧ (∀ c, cap = some c → xs.length ≤ c) ∧ cut row off (xs.length * t.sz) = some (xs.flatMap t.enc) ∧
  cut row (off + i * t.sz) t.sz = some (t.enc x) := by
 obtain ⟨_, _, ⟨rfl, rfl⟩ | ⟨row, off, cap, rfl, hc, hcut⟩⟩ := h
 ·simp at hx
 ·refine ⟨row, off, cap, rfl, hc, hcut, ?_⟩
  have hi := (List.getElem?_eq_some_iff.1 hx)
  obtain ⟨hi, hxi⟩ := hi
  have : i * t.sz + t.sz ≤ xs.length * t.sz := by
   rw [← Nat.succ_mul]; exact Nat.mul_le_mul_right _ hi
  rw [zcu hcut this]
  have := zfh t.len xs i 1 hi
  rw [Nat.one_mul] at this
  rw [this]
  congr 1
  rw [List.drop_eq_getElem_cons hi, hxi]
  simp
theorem zot {β : Type} : ∀ (ys l : List β) (o : Nat), (setAll l o ys).length = l.length
 | [], l, o => rfl
 | y :: ys, l, o => by rw [setAll, zot ys, List.length_set]
theorem zor {β : Type} : ∀ (ys l : List β) (o j : Nat), o + ys.length ≤ l.length → (setAll l o ys)[j]? = if o ≤ j ∧ j < o + ys.length then ys[j - o]? else l[j]?
 | [], l, o, j, h => by simp [setAll]; omega
 | y :: ys, l, o, j, h => by
  simp only [List.length_cons] at h ⊢
  rw [setAll, zor ys (l.set o y) (o + 1) j (by rw [List.length_set]; omega), List.getElem?_set]
  by_cases h1 : o = j
  ·subst h1
   have e1 : ¬ (o + 1 ≤ o ∧ o < o + 1 + ys.length) := by omega
   rw [if_neg e1, if_pos rfl, if_pos (by omega), if_pos (by omega)]
   simp
  ·by_cases h2 : o + 1 ≤ j ∧ j < o + 1 + ys.length
   ·have e3 : j - o = (j - (o + 1)) + 1 := by omega
    rw [if_pos h2, if_pos (by omega), e3]
    simp
   ·rw [if_neg h2, if_neg h1, if_neg (by omega)]
end
end Go.EX


set_option linter.unusedVariables false
set_option linter.unusedSimpArgs false
namespace Go.EX
structure Val where
 k : Int
 n : Int
 deriving DecidableEq
def tVal : Ty Val := ⟨2, true, fun v => [.val (.int .u8 v.k), .val (.int .i64 v.n)], fun v => (tInt .u8).wf v.k ∧ (tInt .i64).wf v.n, fun _ => rfl⟩
structure Obj where
 k : Int
 s : ByteArray
 l : Sl tVal
 room : Int
 fn : Int
end Go.EX

