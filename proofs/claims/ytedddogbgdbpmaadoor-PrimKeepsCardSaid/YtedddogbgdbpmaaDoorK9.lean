import Derived.Test.YtedddogbgdbpmaaDoorK8
import Derived.Test.YtedddogbgdbpmaaDoorRows
import Derived.Test.YtedddogbgdbpmaaDoorK7
set_option linter.unusedVariables false
namespace Go.EX
def x480WL1 : XCode :=
 (.seq (.seq (.region [0, 5, 6, 7, 8, 78] [⟨(some 75), .mv (.t 8), none⟩,
  ⟨(some 76), .mv (.t 7), none⟩,
  ⟨(some 77), .len (.t 76), none⟩,
  ⟨(some 78), .bin .lss (.t 75) (.t 77), none⟩])
 (.cond (.t 78)
  .skip
  (.exit 0)))
 (.seq (.block 1 (.seq (.seq (.region [0, 5, 6, 7, 8, 86] [⟨(some 81), .mv (.t 7), none⟩,
  ⟨(some 82), .mv (.t 8), none⟩,
  ⟨(some 83), .idxA 5 (.t 81) (.t 82), none⟩,
  ⟨(some 84), .fieldA 3 (.t 83), none⟩,
  ⟨(some 85), .load none (.t 84), none⟩,
  ⟨(some 86), .bin .neq (.t 85) (.c (.string .empty)), none⟩])
 (.cond (.t 86)
  (.seq (.seq (.region [0, 5, 6, 7, 8, 111] [⟨(some 87), .mv (.t 7), none⟩,
   ⟨(some 88), .mv (.t 8), none⟩,
   ⟨(some 89), .idxA 5 (.t 87) (.t 88), none⟩,
   ⟨(some 90), .fieldA 0 (.t 89), none⟩,
   ⟨(some 91), .load none (.t 90), none⟩,
   ⟨(some 92), .mv (.t 0), none⟩,
   ⟨(some 93), .call .view 355 [(.t 91), (.t 92)], none⟩,
   ⟨(some 94), .un .not (.t 93), none⟩,
   ⟨(some 95), .mv (.t 94), none⟩,
   ⟨(some 96), .mv (.t 7), some (95, false)⟩,
   ⟨(some 97), .mv (.t 8), some (95, false)⟩,
   ⟨(some 98), .idxA 5 (.t 96) (.t 97), some (95, false)⟩,
   ⟨(some 99), .fieldA 4 (.t 98), some (95, false)⟩,
   ⟨(some 100), .load none (.t 99), some (95, false)⟩,
   ⟨(some 101), .bin .neq (.t 100) (.c (.int .i64 0)), some (95, false)⟩,
   ⟨(some 102), .pick (.t 95) (.c (.bool true)) (.t 101), none⟩,
   ⟨(some 103), .mv (.t 102), none⟩,
   ⟨(some 104), .mv (.t 7), some (103, false)⟩,
   ⟨(some 105), .mv (.t 8), some (103, false)⟩,
   ⟨(some 106), .idxA 5 (.t 104) (.t 105), some (103, false)⟩,
   ⟨(some 107), .fieldA 1 (.t 106), some (103, false)⟩,
   ⟨(some 108), .load (some 2) (.t 107), some (103, false)⟩,
   ⟨(some 109), .build [(.int .u8 0), (.int .i64 0)] [], some (103, false)⟩,
   ⟨(some 110), .eqCells true [0, 0] (.t 108) (.t 109), some (103, false)⟩,
   ⟨(some 111), .pick (.t 103) (.c (.bool true)) (.t 110), none⟩])
  (.cond (.t 111)
   (.seq (.region [4] [⟨(some 4), .mv (.c (.bool false)), none⟩])
   .ret)
   .skip))
  (.exit 1))
  .skip))
 (.seq (.region [0, 5, 6, 7, 8, 147] [⟨(some 112), .mv (.t 7), none⟩,
  ⟨(some 113), .mv (.t 8), none⟩,
  ⟨(some 114), .idxA 5 (.t 112) (.t 113), none⟩,
  ⟨(some 115), .fieldA 0 (.t 114), none⟩,
  ⟨(some 116), .loadI none (.t 115), none⟩,
  ⟨(some 117), .mv (.t 7), none⟩,
  ⟨(some 118), .mv (.t 8), none⟩,
  ⟨(some 119), .idxA 5 (.t 117) (.t 118), none⟩,
  ⟨(some 120), .fieldA 1 (.t 119), none⟩,
  ⟨(some 121), .loadI (some 2) (.t 120), none⟩,
  ⟨(some 122), .buildSlice 2 [(.int .u8 0), (.int .i64 0)] 1 [(0, 2, (.t 121))], none⟩,
  ⟨(some 123), .mv (.t 5), none⟩,
  ⟨(some 124), .appendT 2 16 (.t 122) (.t 123) [], none⟩,
  ⟨(some 125), .call .view 649 [(.t 116), (.t 124)], none⟩,
  ⟨(some 126), .mv (.t 6), none⟩,
  ⟨(some 127), .mv (.t 7), none⟩,
  ⟨(some 128), .mv (.t 8), none⟩,
  ⟨(some 129), .idxA 5 (.t 127) (.t 128), none⟩,
  ⟨(some 130), .fieldA 4 (.t 129), none⟩,
  ⟨(some 131), .loadI none (.t 130), none⟩,
  ⟨(some 132), .bin .add (.t 126) (.t 131), none⟩,
  ⟨(some 133), .bin .gtr (.t 125) (.t 132), none⟩,
  ⟨(some 134), .mv (.t 133), none⟩,
  ⟨(some 135), .mv (.t 7), some (134, false)⟩,
  ⟨(some 136), .mv (.t 8), some (134, false)⟩,
  ⟨(some 137), .idxA 5 (.t 135) (.t 136), some (134, false)⟩,
  ⟨(some 138), .fieldA 0 (.t 137), some (134, false)⟩,
  ⟨(some 139), .loadI none (.t 138), some (134, false)⟩,
  ⟨(some 140), .mv (.t 7), some (134, false)⟩,
  ⟨(some 141), .mv (.t 8), some (134, false)⟩,
  ⟨(some 142), .idxA 5 (.t 140) (.t 141), some (134, false)⟩,
  ⟨(some 143), .fieldA 1 (.t 142), some (134, false)⟩,
  ⟨(some 144), .loadI (some 2) (.t 143), some (134, false)⟩,
  ⟨(some 145), .call .view 646 [(.t 139), (.t 144)], some (134, false)⟩,
  ⟨(some 146), .un .not (.t 145), some (134, false)⟩,
  ⟨(some 147), .pick (.t 134) (.c (.bool true)) (.t 146), none⟩])
 (.cond (.t 147)
  (.seq (.region [4] [⟨(some 4), .mv (.c (.bool false)), none⟩])
  .ret)
  .skip))))
 (.region [0, 5, 6, 7, 8] [⟨(some 79), .mv (.t 8), none⟩,
  ⟨(some 80), .bin .add (.t 79) (.c (.int .i64 1)), none⟩,
  ⟨(some 8), .mv (.t 80), none⟩])))
def x480W : XFun := ⟨[.tmp 4],
 (.seq (.region [0, 3] [⟨(some 3), .box 6 (.t 1), none⟩,
  ⟨(some 4), .mv (.c (.bool false)), none⟩])
 (.seq (.seq (.region [0, 3, 31] [⟨(some 9), .mv (.t 0), none⟩,
  ⟨(some 10), .call .view 487 [(.t 9)], none⟩,
  ⟨(some 11), .mv (.t 10), none⟩,
  ⟨(some 12), .mv (.t 0), some (11, false)⟩,
  ⟨(some 13), .idxP 3 2 (.t 3) (.c (.int .i64 0)), some (11, false)⟩,
  ⟨(some 14), .load (some 2) (.t 13), some (11, false)⟩,
  ⟨(some 15), .call .view 646 [(.t 12), (.t 14)], some (11, false)⟩,
  ⟨(some 16), .un .not (.t 15), some (11, false)⟩,
  ⟨(some 17), .pick (.t 11) (.c (.bool true)) (.t 16), none⟩,
  ⟨(some 18), .mv (.t 17), none⟩,
  ⟨(some 19), .mv (.t 0), some (18, false)⟩,
  ⟨(some 20), .idxP 3 2 (.t 3) (.c (.int .i64 1)), some (18, false)⟩,
  ⟨(some 21), .load (some 2) (.t 20), some (18, false)⟩,
  ⟨(some 22), .call .view 646 [(.t 19), (.t 21)], some (18, false)⟩,
  ⟨(some 23), .un .not (.t 22), some (18, false)⟩,
  ⟨(some 24), .pick (.t 18) (.c (.bool true)) (.t 23), none⟩,
  ⟨(some 25), .mv (.t 24), none⟩,
  ⟨(some 26), .mv (.t 0), some (25, false)⟩,
  ⟨(some 27), .idxP 3 2 (.t 3) (.c (.int .i64 2)), some (25, false)⟩,
  ⟨(some 28), .load (some 2) (.t 27), some (25, false)⟩,
  ⟨(some 29), .call .view 646 [(.t 26), (.t 28)], some (25, false)⟩,
  ⟨(some 30), .un .not (.t 29), some (25, false)⟩,
  ⟨(some 31), .pick (.t 25) (.c (.bool true)) (.t 30), none⟩])
 (.cond (.t 31)
  (.seq (.region [4] [⟨(some 32), .call .view 489 [], none⟩,
   ⟨(some 4), .mv (.t 32), none⟩])
  .ret)
  .skip))
 (.seq (.region [0, 3, 5] [⟨(some 33), .idxP 3 2 (.t 3) (.c (.int .i64 0)), none⟩,
  ⟨(some 34), .load (some 2) (.t 33), none⟩,
  ⟨(some 35), .idxP 3 2 (.t 3) (.c (.int .i64 1)), none⟩,
  ⟨(some 36), .load (some 2) (.t 35), none⟩,
  ⟨(some 37), .idxP 3 2 (.t 3) (.c (.int .i64 2)), none⟩,
  ⟨(some 38), .load (some 2) (.t 37), none⟩,
  ⟨(some 39), .buildSlice 2 [(.int .u8 0), (.int .i64 0)] 3 [(0, 2, (.t 34)), (2, 2, (.t 36)), (4, 2, (.t 38))], none⟩,
  ⟨(some 5), .ice (.t 39), none⟩])
 (.seq (.region [0, 3, 5, 6] [⟨(some 40), .mv (.t 0), none⟩,
  ⟨(some 41), .mv (.t 5), none⟩,
  ⟨(some 42), .call .view 649 [(.t 40), (.t 41)], none⟩,
  ⟨(some 6), .mv (.t 42), none⟩])
 (.seq (.region [0, 5, 6, 7] [⟨(some 43), .mv (.t 0), none⟩,
  ⟨(some 44), .idxP 3 2 (.t 3) (.c (.int .i64 0)), none⟩,
  ⟨(some 45), .load (some 2) (.t 44), none⟩,
  ⟨(some 46), .idxP 3 2 (.t 3) (.c (.int .i64 1)), none⟩,
  ⟨(some 47), .load (some 2) (.t 46), none⟩,
  ⟨(some 48), .call .view 627 [(.t 43), (.c (.int .u8 1)), (.t 45), (.t 47)], none⟩,
  ⟨(some 49), .mv (.t 0), none⟩,
  ⟨(some 50), .idxP 3 2 (.t 3) (.c (.int .i64 0)), none⟩,
  ⟨(some 51), .load (some 2) (.t 50), none⟩,
  ⟨(some 52), .idxP 3 2 (.t 3) (.c (.int .i64 1)), none⟩,
  ⟨(some 53), .load (some 2) (.t 52), none⟩,
  ⟨(some 54), .idxP 3 2 (.t 3) (.c (.int .i64 2)), none⟩,
  ⟨(some 55), .load (some 2) (.t 54), none⟩,
  ⟨(some 56), .call .view 636 [(.t 49), (.t 51), (.t 53), (.t 55)], none⟩,
  ⟨(some 57), .mv (.t 0), none⟩,
  ⟨(some 58), .mv (.t 5), none⟩,
  ⟨(some 59), .call .view 632 [(.t 57), (.t 58)], none⟩,
  ⟨(some 60), .mv (.t 0), none⟩,
  ⟨(some 61), .mv (.t 5), none⟩,
  ⟨(some 62), .slice 2 (.t 61) none (some (.c (.int .i64 2))), none⟩,
  ⟨(some 63), .call .view 633 [(.t 60), (.t 62)], none⟩,
  ⟨(some 64), .mv (.t 0), none⟩,
  ⟨(some 65), .idxP 3 2 (.t 3) (.c (.int .i64 0)), none⟩,
  ⟨(some 66), .load (some 2) (.t 65), none⟩,
  ⟨(some 67), .call .view 637 [(.t 64), (.t 66)], none⟩,
  ⟨(some 68), .mv (.t 0), none⟩,
  ⟨(some 69), .idxP 3 2 (.t 3) (.c (.int .i64 0)), none⟩,
  ⟨(some 70), .load (some 2) (.t 69), none⟩,
  ⟨(some 71), .idxP 3 2 (.t 3) (.c (.int .i64 1)), none⟩,
  ⟨(some 72), .load (some 2) (.t 71), none⟩,
  ⟨(some 73), .call .view 630 [(.t 68), (.t 70), (.t 72)], none⟩,
  ⟨(some 74), .buildSlice 5 [(.slice none 0 0), (.int .u8 0), (.int .i64 0), (.string .empty), (.int .i64 0)] 6 [(0, 5, (.t 48)), (5, 5, (.t 56)), (10, 5, (.t 59)), (15, 5, (.t 63)), (20, 5, (.t 67)), (25, 5, (.t 73))], none⟩,
  ⟨(some 7), .ice (.t 74), none⟩])
 (.seq (.seq (.region [0, 5, 6, 7, 8] [⟨(some 8), .mv (.c (.int .i64 0)), none⟩])
 (.block 0 (.loop [0, 5, 6, 7, 8] x480WL1)))
 (.seq (.region [4] [⟨(some 148), .call .view 489 [], none⟩,
  ⟨(some 4), .mv (.t 148), none⟩])
 .ret)))))))⟩
def code11k2 : Nat → Option XFun
 | 206 => some x206
 | 207 => some x207
 | 208 => some x208
 | 209 => some x209
 | 210 => some x210
 | 211 => some x211
 | 212 => some x212
 | 213 => some x213
 | 214 => some x214
 | 215 => some x215
 | 216 => some x216
 | 217 => some x217
 | 218 => some x218
 | 219 => some x219
 | 244 => some x244
 | 245 => some x245
 | 246 => some x246
 | 338 => some x338
 | 339 => some x339
 | 351 => some x351
 | 352 => some x352
 | 355 => some x355
 | 357 => some x357
 | 361 => some x361
 | 380 => some x380
 | 480 => some x480W
 | 487 => some x487
 | 578 => some x578
 | 579 => some x579
 | 580 => some x580
 | 581 => some x581
 | 582 => some x582
 | 583 => some x583
 | 584 => some x584
 | 585 => some x585
 | 586 => some x586
 | 587 => some x587
 | 588 => some x588
 | 589 => some x589
 | 627 => some x627
 | 630 => some x630
 | 632 => some x632
 | 633 => some x633
 | 637 => some x637
 | 639 => some x639
 | 640 => some x640N
 | 641 => some x641V
 | 642 => some x642
 | 643 => some (x643P 1000000000002)
 | 648 => some x648
 | 651 => some x651
 | 669 => some x669
 | 673 => some x673
 | 709 => some x709
 | 740 => some x740
 | 741 => some x741
 | 742 => some x742
 | 743 => some x743
 | 749 => some x749
 | 759 => some x759
 | 785 => some x785
 | 786 => some x786
 | _ => none
theorem zc3 : code11k2 yieldNo = none := rfl
end Go.EX


namespace Go.Proofs.YtedddogbgdbpmaaDoor
open Go.EX
def gids : List Nat := [100000, 100001, 703, 483, 480, 489, 633, 636, 491, 631, 630, 487, 646, 649, 627, 632, 637, 355, 640, 361, 656, 745, 654, 647, 652, 657, 352, 643, 749, 641, 642, 206, 639, 339, 651, 755, 655, 653, 650, 351, 743, 740, 742, 741, 759, 578, 219, 207, 212, 580, 210, 588, 217, 208, 214, 211, 215, 338, 357, 218, 216, 579, 213, 648, 209, 581, 380, 582, 589, 246, 244, 670, 583, 584, 585, 586, 587, 673, 785, 786, 245, 669, 674, 708, 709, 100085, 719, 718, 713, 714, 716, 732, 712, 715, 733, 734, 735, 100097, 100098, 100099, 100100, 100101, 100102, 100103, 100104, 100105, 100106, 100107, 100108, 100109, 100110, 100111, 100112, 100113, 100114, 100115, 100116, 100117, 100118, 704]
def num (f : FuncId) : Nat := (gids[f]?).getD (100000 + f)
theorem ok4 : FunOK Tryd.prog num 4 x480W := .one Tryd.func4 (by kernel_rfl)
theorem ok6 : FunOK Tryd.prog num 6 x633 := .one Tryd.func6 (by kernel_rfl)
theorem ok10 : FunOK Tryd.prog num 10 x630 := .one Tryd.func10 (by kernel_rfl)
theorem ok11 : FunOK Tryd.prog num 11 x487 := .one Tryd.func11 (by kernel_rfl)
theorem ok14 : FunOK Tryd.prog num 14 x627 := .one Tryd.func14 (by kernel_rfl)
theorem ok15 : FunOK Tryd.prog num 15 x632 := .one Tryd.func15 (by kernel_rfl)
theorem ok16 : FunOK Tryd.prog num 16 x637 := .one Tryd.func16 (by kernel_rfl)
theorem ok17 : FunOK Tryd.prog num 17 x355 := .one Tryd.func17 (by kernel_rfl)
theorem ok18 : FunOK Tryd.prog num 18 x640N := .one Tryd.func18 (by kernel_rfl)
theorem ok19 : FunOK Tryd.prog num 19 x361 := .one Tryd.func19 (by kernel_rfl)
theorem ok26 : FunOK Tryd.prog num 26 x352 := .one Tryd.func26 (by kernel_rfl)
theorem ok27 : FunOK Tryd.prog num 27 (x643P 1000000000002) := .one Tryd.func27 (by kernel_rfl)
theorem ok28 : FunOK Tryd.prog num 28 x749 := .one Tryd.func28 (by kernel_rfl)
theorem ok29 : FunOK Tryd.prog num 29 x641V := .one Tryd.func29 (by kernel_rfl)
theorem ok30 : FunOK Tryd.prog num 30 x642 := .one Tryd.func30 (by kernel_rfl)
theorem ok31 : FunOK Tryd.prog num 31 x206 := .one Tryd.func31 (by kernel_rfl)
theorem ok32 : FunOK Tryd.prog num 32 x639 := .one Tryd.func32 (by kernel_rfl)
theorem ok33 : FunOK Tryd.prog num 33 x339 := .one Tryd.func33 (by kernel_rfl)
theorem ok34 : FunOK Tryd.prog num 34 x651 := .one Tryd.func34 (by kernel_rfl)
theorem ok39 : FunOK Tryd.prog num 39 x351 := .one Tryd.func39 (by kernel_rfl)
theorem ok40 : FunOK Tryd.prog num 40 x743 := .one Tryd.func40 (by kernel_rfl)
theorem ok41 : FunOK Tryd.prog num 41 x740 := .one Tryd.func41 (by kernel_rfl)
theorem ok42 : FunOK Tryd.prog num 42 x742 := .one Tryd.func42 (by kernel_rfl)
theorem ok43 : FunOK Tryd.prog num 43 x741 := .one Tryd.func43 (by kernel_rfl)
theorem ok44 : FunOK Tryd.prog num 44 x759 := .one Tryd.func44 (by kernel_rfl)
theorem ok45 : FunOK Tryd.prog num 45 x578 := .one Tryd.func45 (by kernel_rfl)
theorem ok46 : FunOK Tryd.prog num 46 x219 := .one Tryd.func46 (by kernel_rfl)
theorem ok47 : FunOK Tryd.prog num 47 x207 := .one Tryd.func47 (by kernel_rfl)
theorem ok48 : FunOK Tryd.prog num 48 x212 := .one Tryd.func48 (by kernel_rfl)
theorem ok49 : FunOK Tryd.prog num 49 x580 := .one Tryd.func49 (by kernel_rfl)
theorem ok50 : FunOK Tryd.prog num 50 x210 := .one Tryd.func50 (by kernel_rfl)
theorem ok51 : FunOK Tryd.prog num 51 x588 := .one Tryd.func51 (by kernel_rfl)
theorem ok52 : FunOK Tryd.prog num 52 x217 := .one Tryd.func52 (by kernel_rfl)
theorem ok53 : FunOK Tryd.prog num 53 x208 := .one Tryd.func53 (by kernel_rfl)
theorem ok54 : FunOK Tryd.prog num 54 x214 := .one Tryd.func54 (by kernel_rfl)
theorem ok55 : FunOK Tryd.prog num 55 x211 := .one Tryd.func55 (by kernel_rfl)
theorem ok56 : FunOK Tryd.prog num 56 x215 := .one Tryd.func56 (by kernel_rfl)
theorem ok57 : FunOK Tryd.prog num 57 x338 := .one Tryd.func57 (by kernel_rfl)
theorem ok58 : FunOK Tryd.prog num 58 x357 := .one Tryd.func58 (by kernel_rfl)
theorem ok59 : FunOK Tryd.prog num 59 x218 := .one Tryd.func59 (by kernel_rfl)
theorem ok60 : FunOK Tryd.prog num 60 x216 := .one Tryd.func60 (by kernel_rfl)
theorem ok61 : FunOK Tryd.prog num 61 x579 := .one Tryd.func61 (by kernel_rfl)
theorem ok62 : FunOK Tryd.prog num 62 x213 := .one Tryd.func62 (by kernel_rfl)
theorem ok63 : FunOK Tryd.prog num 63 x648 := .one Tryd.func63 (by kernel_rfl)
theorem ok64 : FunOK Tryd.prog num 64 x209 := .one Tryd.func64 (by kernel_rfl)
theorem ok65 : FunOK Tryd.prog num 65 x581 := .one Tryd.func65 (by kernel_rfl)
theorem ok66 : FunOK Tryd.prog num 66 x380 := .one Tryd.func66 (by kernel_rfl)
theorem ok67 : FunOK Tryd.prog num 67 x582 := .one Tryd.func67 (by kernel_rfl)
theorem ok68 : FunOK Tryd.prog num 68 x589 := .one Tryd.func68 (by kernel_rfl)
theorem ok69 : FunOK Tryd.prog num 69 x246 := .one Tryd.func69 (by kernel_rfl)
theorem ok70 : FunOK Tryd.prog num 70 x244 := .one Tryd.func70 (by kernel_rfl)
theorem ok72 : FunOK Tryd.prog num 72 x583 := .one Tryd.func72 (by kernel_rfl)
theorem ok73 : FunOK Tryd.prog num 73 x584 := .one Tryd.func73 (by kernel_rfl)
theorem ok74 : FunOK Tryd.prog num 74 x585 := .one Tryd.func74 (by kernel_rfl)
theorem ok75 : FunOK Tryd.prog num 75 x586 := .one Tryd.func75 (by kernel_rfl)
theorem ok76 : FunOK Tryd.prog num 76 x587 := .one Tryd.func76 (by kernel_rfl)
theorem ok77 : FunOK Tryd.prog num 77 x673 := .one Tryd.func77 (by kernel_rfl)
theorem ok78 : FunOK Tryd.prog num 78 x785 := .one Tryd.func78 (by kernel_rfl)
theorem ok79 : FunOK Tryd.prog num 79 x786 := .one Tryd.func79 (by kernel_rfl)
theorem ok80 : FunOK Tryd.prog num 80 x245 := .one Tryd.func80 (by kernel_rfl)
theorem ok81 : FunOK Tryd.prog num 81 x669 := .one Tryd.func81 (by kernel_rfl)
theorem ok84 : FunOK Tryd.prog num 84 x709 := .one Tryd.func84 (by kernel_rfl)
abbrev FnAt (f : Nat) : Prop := ∀ xf, code11k2 (num f) = some xf → FunOK Tryd.prog num f xf
theorem hit {n : Nat} {x : XFun} (e : code11k2 (num n) = some x) (k : FunOK Tryd.prog num n x) (r : ∀ f, f < n → FnAt f) : ∀ f, f < n + 1 → FnAt f := fun f h xf hx => by
 rcases Nat.lt_or_eq_of_le (Nat.le_of_lt_succ h) with h | rfl
 ·exact r f h xf hx
 ·rw [e] at hx; cases hx; exact k
theorem nix {n : Nat} (e : code11k2 (num n) = none) (r : ∀ f, f < n → FnAt f) : ∀ f, f < n + 1 → FnAt f := fun f h xf hx => by
 rcases Nat.lt_or_eq_of_le (Nat.le_of_lt_succ h) with h | rfl
 ·exact r f h xf hx
 ·rw [e] at hx; cases hx
theorem upto20 : ∀ f, f < 20 → FnAt f :=
 hit (by kernel_rfl) ok19 <|
 hit (by kernel_rfl) ok18 <|
 hit (by kernel_rfl) ok17 <|
 hit (by kernel_rfl) ok16 <|
 hit (by kernel_rfl) ok15 <|
 hit (by kernel_rfl) ok14 <|
 nix (by kernel_rfl) <|
 nix (by kernel_rfl) <|
 hit (by kernel_rfl) ok11 <|
 hit (by kernel_rfl) ok10 <|
 nix (by kernel_rfl) <|
 nix (by kernel_rfl) <|
 nix (by kernel_rfl) <|
 hit (by kernel_rfl) ok6 <|
 nix (by kernel_rfl) <|
 hit (by kernel_rfl) ok4 <|
 nix (by kernel_rfl) <|
 nix (by kernel_rfl) <|
 nix (by kernel_rfl) <|
 nix (by kernel_rfl) (fun f h => absurd h (Nat.not_lt_zero f))
theorem upto40 : ∀ f, f < 40 → FnAt f :=
 hit (by kernel_rfl) ok39 <|
 nix (by kernel_rfl) <|
 nix (by kernel_rfl) <|
 nix (by kernel_rfl) <|
 nix (by kernel_rfl) <|
 hit (by kernel_rfl) ok34 <|
 hit (by kernel_rfl) ok33 <|
 hit (by kernel_rfl) ok32 <|
 hit (by kernel_rfl) ok31 <|
 hit (by kernel_rfl) ok30 <|
 hit (by kernel_rfl) ok29 <|
 hit (by kernel_rfl) ok28 <|
 hit (by kernel_rfl) ok27 <|
 hit (by kernel_rfl) ok26 <|
 nix (by kernel_rfl) <|
 nix (by kernel_rfl) <|
 nix (by kernel_rfl) <|
 nix (by kernel_rfl) <|
 nix (by kernel_rfl) <|
 nix (by kernel_rfl) upto20
theorem upto60 : ∀ f, f < 60 → FnAt f :=
 hit (by kernel_rfl) ok59 <|
 hit (by kernel_rfl) ok58 <|
 hit (by kernel_rfl) ok57 <|
 hit (by kernel_rfl) ok56 <|
 hit (by kernel_rfl) ok55 <|
 hit (by kernel_rfl) ok54 <|
 hit (by kernel_rfl) ok53 <|
 hit (by kernel_rfl) ok52 <|
 hit (by kernel_rfl) ok51 <|
 hit (by kernel_rfl) ok50 <|
 hit (by kernel_rfl) ok49 <|
 hit (by kernel_rfl) ok48 <|
 hit (by kernel_rfl) ok47 <|
 hit (by kernel_rfl) ok46 <|
 hit (by kernel_rfl) ok45 <|
 hit (by kernel_rfl) ok44 <|
 hit (by kernel_rfl) ok43 <|
 hit (by kernel_rfl) ok42 <|
 hit (by kernel_rfl) ok41 <|
 hit (by kernel_rfl) ok40 upto40
theorem upto80 : ∀ f, f < 80 → FnAt f :=
 hit (by kernel_rfl) ok79 <|
 hit (by kernel_rfl) ok78 <|
 hit (by kernel_rfl) ok77 <|
 hit (by kernel_rfl) ok76 <|
 hit (by kernel_rfl) ok75 <|
 hit (by kernel_rfl) ok74 <|
 hit (by kernel_rfl) ok73 <|
 hit (by kernel_rfl) ok72 <|
 nix (by kernel_rfl) <|
 hit (by kernel_rfl) ok70 <|
 hit (by kernel_rfl) ok69 <|
 hit (by kernel_rfl) ok68 <|
 hit (by kernel_rfl) ok67 <|
 hit (by kernel_rfl) ok66 <|
 hit (by kernel_rfl) ok65 <|
 hit (by kernel_rfl) ok64 <|
 hit (by kernel_rfl) ok63 <|
 hit (by kernel_rfl) ok62 <|
 hit (by kernel_rfl) ok61 <|
 hit (by kernel_rfl) ok60 upto60
theorem upto100 : ∀ f, f < 100 → FnAt f :=
 nix (by kernel_rfl) <|
 nix (by kernel_rfl) <|
 nix (by kernel_rfl) <|
 nix (by kernel_rfl) <|
 nix (by kernel_rfl) <|
 nix (by kernel_rfl) <|
 nix (by kernel_rfl) <|
 nix (by kernel_rfl) <|
 nix (by kernel_rfl) <|
 nix (by kernel_rfl) <|
 nix (by kernel_rfl) <|
 nix (by kernel_rfl) <|
 nix (by kernel_rfl) <|
 nix (by kernel_rfl) <|
 nix (by kernel_rfl) <|
 hit (by kernel_rfl) ok84 <|
 nix (by kernel_rfl) <|
 nix (by kernel_rfl) <|
 hit (by kernel_rfl) ok81 <|
 hit (by kernel_rfl) ok80 upto80
theorem upto120 : ∀ f, f < 120 → FnAt f :=
 nix (by kernel_rfl) <|
 nix (by kernel_rfl) <|
 nix (by kernel_rfl) <|
 nix (by kernel_rfl) <|
 nix (by kernel_rfl) <|
 nix (by kernel_rfl) <|
 nix (by kernel_rfl) <|
 nix (by kernel_rfl) <|
 nix (by kernel_rfl) <|
 nix (by kernel_rfl) <|
 nix (by kernel_rfl) <|
 nix (by kernel_rfl) <|
 nix (by kernel_rfl) <|
 nix (by kernel_rfl) <|
 nix (by kernel_rfl) <|
 nix (by kernel_rfl) <|
 nix (by kernel_rfl) <|
 nix (by kernel_rfl) <|
 nix (by kernel_rfl) <|
 nix (by kernel_rfl) upto100
theorem fns (f : FuncId) (xf : XFun) (h : code11k2 (num f) = some xf) : FunOK Tryd.prog num f xf := by
 by_cases hf : f < 120
 ·exact upto120 f hf xf h
 ·have hn : num f = 100000 + f := by
   unfold num
   rw [List.getElem?_eq_none (by rw [show gids.length = 120 from by kernel_rfl]; simp only [FuncId] at *; omega)]; rfl
  rw [hn] at h
  unfold code11k2 at h
  split at h <;> first | (exfalso; simp only [FuncId] at *; omega) | cases h
theorem nz (f : FuncId) : num f ≠ yieldNo := by
 by_cases hf : f < 120
 ·exact (by decide +kernel : ∀ f : Fin 120, num f.val ≠ yieldNo) ⟨f, hf⟩
 ·have hn : num f = 100000 + f := by
   unfold num
   rw [List.getElem?_eq_none (by rw [show gids.length = 120 from by kernel_rfl]; simp only [FuncId] at *; omega)]; rfl
  rw [hn, yieldNo]
  simp only [FuncId] at *; omega
end Go.Proofs.YtedddogbgdbpmaaDoor

