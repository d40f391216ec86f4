/-
  EX: the functions as the interpreter reads them. Written by a program (Gen.lean.txt, mkcode.py).
-/
import Derived.Test.YtmghegmjiagkgaaGreatDoorK1
set_option linter.unusedVariables false
set_option linter.unusedSimpArgs false
namespace Go.EX

/-- gearbox/gearboxlaw23.DeoptFrames · 2 parameters, 0 captured -/
def x495 : XFun := ⟨[.tmp 4],
  (.seq (.region [1, 2] [⟨(some 2), .box 2 (.t 0), none⟩,
    ⟨(some 4), .mv (.c (.bool false)), none⟩])
  (.seq (.seq (.region [1, 2, 19] [⟨(some 13), .fieldA 1 (.t 2), none⟩,
    ⟨(some 14), .load none (.t 13), none⟩,
    ⟨(some 15), .len (.t 14), none⟩,
    ⟨(some 16), .mv (.t 1), none⟩,
    ⟨(some 17), .len (.t 16), none⟩,
    ⟨(some 18), .bin .add (.t 15) (.t 17), none⟩,
    ⟨(some 19), .bin .gtr (.t 18) (.c (.int .i64 20000)), none⟩])
  (.cond (.t 19)
    (.seq (.region [4] [⟨(some 20), .call .view 496 [], none⟩,
      ⟨(some 4), .mv (.t 20), none⟩])
    .ret)
    .skip))
  (.seq (.region [1, 2, 5] [⟨(some 21), .mv (.t 1), none⟩,
    ⟨(some 22), .call .own 379 [(.t 21)], none⟩,
    ⟨(some 5), .mv (.t 22), none⟩])
  (.seq (.region [1, 2, 5, 6, 7] [⟨(some 24), .load (some 2) (.t 2), none⟩,
    ⟨(some 25), .mv (.t 5), none⟩,
    ⟨(some 26), .call .own 288 [(.t 24), (.t 25)], none⟩,
    ⟨(some 23), .mv (.t 26), none⟩,
    ⟨(some 27), .extract (.t 23) 0, none⟩,
    ⟨(some 28), .extract (.t 23) 1, none⟩,
    ⟨(some 6), .mv (.t 27), none⟩,
    ⟨(some 7), .mv (.t 28), none⟩])
  (.seq (.region [1, 2, 5, 6, 7, 8] [⟨(some 30), .load (some 2) (.t 2), none⟩,
    ⟨(some 31), .mv (.t 5), none⟩,
    ⟨(some 32), .call .own 288 [(.t 30), (.t 31)], none⟩,
    ⟨(some 29), .mv (.t 32), none⟩,
    ⟨(some 33), .extract (.t 29) 0, none⟩,
    ⟨(some 34), .extract (.t 29) 1, none⟩,
    ⟨(some 8), .mv (.t 33), none⟩,
    ⟨(some 9), .mv (.t 34), none⟩])
  (.seq (.region [1, 5, 6, 7, 8, 10, 11] [⟨(some 36), .load (some 2) (.t 2), none⟩,
    ⟨(some 37), .mv (.t 1), none⟩,
    ⟨(some 38), .call .view 564 [(.t 36), (.t 37)], none⟩,
    ⟨(some 35), .mv (.t 38), none⟩,
    ⟨(some 39), .extract (.t 35) 0, none⟩,
    ⟨(some 40), .extract (.t 35) 1, none⟩,
    ⟨(some 10), .mv (.t 39), none⟩,
    ⟨(some 11), .mv (.t 40), none⟩])
  (.seq (.seq (.region [5, 6, 8, 55] [⟨(some 41), .mv (.t 7), none⟩,
    ⟨(some 42), .mv (.t 11), none⟩,
    ⟨(some 43), .bin .neq (.t 41) (.t 42), none⟩,
    ⟨(some 44), .mv (.t 43), none⟩,
    ⟨(some 45), .mv (.t 6), some (44, false)⟩,
    ⟨(some 46), .mv (.t 10), some (44, false)⟩,
    ⟨(some 47), .call .view 357 [(.t 45), (.t 46)], some (44, false)⟩,
    ⟨(some 48), .un .not (.t 47), some (44, false)⟩,
    ⟨(some 49), .pick (.t 44) (.c (.bool true)) (.t 48), none⟩,
    ⟨(some 50), .mv (.t 49), none⟩,
    ⟨(some 51), .mv (.t 5), some (50, false)⟩,
    ⟨(some 52), .mv (.t 1), some (50, false)⟩,
    ⟨(some 53), .call .view 336 [(.t 51), (.t 52)], some (50, false)⟩,
    ⟨(some 54), .un .not (.t 53), some (50, false)⟩,
    ⟨(some 55), .pick (.t 50) (.c (.bool true)) (.t 54), none⟩])
  (.cond (.t 55)
    (.seq (.region [4] [⟨(some 4), .mv (.c (.bool false)), none⟩])
    .ret)
    .skip))
  (.seq (.region [5, 6, 8, 12] [⟨(some 12), .alloc [(.int .i64 0), (.slice none 0 0), (.slice none 0 0), (.slice none 0 0), (.slice none 0 0), (.slice none 0 0), (.slice none 0 0), (.slice none 0 0), (.slice none 0 0), (.slice none 0 0), (.slice none 0 0), (.slice none 0 0), (.slice none 0 0), (.slice none 0 0), (.slice none 0 0), (.slice none 0 0), (.slice none 0 0), (.slice none 0 0), (.slice none 0 0), (.slice none 0 0), (.slice none 0 0)], none⟩])
  (.seq (.region [6, 8, 12] [⟨(some 56), .mv (.t 5), none⟩,
    ⟨(some 57), .call .share 14 [(.t 12), (.t 56)], none⟩])
  (.seq (.region [8, 12] [⟨(some 58), .mv (.t 6), none⟩,
    ⟨(some 59), .call .share 14 [(.t 12), (.t 58)], none⟩])
  (.seq (.region [12] [⟨(some 60), .mv (.t 8), none⟩,
    ⟨(some 61), .call .share 14 [(.t 12), (.t 60)], none⟩])
  (.seq (.region [4] [⟨(some 62), .call .share 1 [(.t 12)], none⟩,
    ⟨(some 63), .mv (.t 62), none⟩,
    ⟨(some 64), .call .view 496 [], some (63, true)⟩,
    ⟨(some 65), .pick (.t 63) (.t 64) (.c (.bool false)), none⟩,
    ⟨(some 4), .mv (.t 65), none⟩])
  .ret))))))))))))⟩

/-- gearbox/gearboxlaw23.DeoptEnters · 3 parameters, 0 captured -/
def x494 : XFun := ⟨[.tmp 6],
  (.seq (.region [1, 2, 3] [⟨(some 3), .box 4 (.t 0), none⟩,
    ⟨(some 6), .mv (.c (.bool false)), none⟩])
  (.seq (.seq (.region [1, 2, 3, 34] [⟨(some 18), .load (some 4) (.t 3), none⟩,
    ⟨(some 19), .call .view 341 [(.t 18)], none⟩,
    ⟨(some 20), .mv (.t 2), none⟩,
    ⟨(some 21), .len (.t 20), none⟩,
    ⟨(some 22), .bin .add (.t 19) (.t 21), none⟩,
    ⟨(some 23), .bin .gtr (.t 22) (.c (.int .i64 20000)), none⟩,
    ⟨(some 24), .mv (.t 23), none⟩,
    ⟨(some 25), .fieldA 1 (.t 3), some (24, false)⟩,
    ⟨(some 26), .load none (.t 25), some (24, false)⟩,
    ⟨(some 27), .len (.t 26), some (24, false)⟩,
    ⟨(some 28), .bin .gtr (.t 27) (.c (.int .i64 0)), some (24, false)⟩,
    ⟨(some 29), .mv (.t 28), some (24, false)⟩,
    ⟨(some 30), .mv (.t 2), some (29, true)⟩,
    ⟨(some 31), .len (.t 30), some (29, true)⟩,
    ⟨(some 32), .bin .gtr (.t 31) (.c (.int .i64 2000)), some (29, true)⟩,
    ⟨(some 33), .pick (.t 29) (.t 32) (.c (.bool false)), some (24, false)⟩,
    ⟨(some 34), .pick (.t 24) (.c (.bool true)) (.t 33), none⟩])
  (.cond (.t 34)
    (.seq (.region [6] [⟨(some 35), .call .view 496 [], none⟩,
      ⟨(some 6), .mv (.t 35), none⟩])
    .ret)
    .skip))
  (.seq (.region [1, 2, 3, 7] [⟨(some 36), .mv (.t 2), none⟩,
    ⟨(some 37), .call .own 379 [(.t 36)], none⟩,
    ⟨(some 7), .mv (.t 37), none⟩])
  (.seq (.region [1, 2, 3, 7, 8, 9, 10] [⟨(some 39), .load (some 4) (.t 3), none⟩,
    ⟨(some 40), .mv (.t 1), none⟩,
    ⟨(some 41), .mv (.t 7), none⟩,
    ⟨(some 42), .call .own 287 [(.t 39), (.t 40), (.t 41)], none⟩,
    ⟨(some 38), .mv (.t 42), none⟩,
    ⟨(some 43), .extract (.t 38) 0, none⟩,
    ⟨(some 44), .extract (.t 38) 1, none⟩,
    ⟨(some 45), .extract (.t 38) 2, none⟩,
    ⟨(some 8), .mv (.t 43), none⟩,
    ⟨(some 9), .mv (.t 44), none⟩,
    ⟨(some 10), .mv (.t 45), none⟩])
  (.seq (.region [1, 2, 3, 7, 8, 9, 10, 11] [⟨(some 47), .load (some 4) (.t 3), none⟩,
    ⟨(some 48), .mv (.t 1), none⟩,
    ⟨(some 49), .mv (.t 7), none⟩,
    ⟨(some 50), .call .own 287 [(.t 47), (.t 48), (.t 49)], none⟩,
    ⟨(some 46), .mv (.t 50), none⟩,
    ⟨(some 51), .extract (.t 46) 0, none⟩,
    ⟨(some 52), .extract (.t 46) 1, none⟩,
    ⟨(some 53), .extract (.t 46) 2, none⟩,
    ⟨(some 11), .mv (.t 51), none⟩,
    ⟨(some 12), .mv (.t 52), none⟩,
    ⟨(some 13), .mv (.t 53), none⟩])
  (.seq (.region [2, 7, 8, 9, 10, 11, 14, 15, 16] [⟨(some 55), .load (some 4) (.t 3), none⟩,
    ⟨(some 56), .mv (.t 1), none⟩,
    ⟨(some 57), .mv (.t 2), none⟩,
    ⟨(some 58), .call .view 563 [(.t 55), (.t 56), (.t 57)], none⟩,
    ⟨(some 54), .mv (.t 58), none⟩,
    ⟨(some 59), .extract (.t 54) 0, none⟩,
    ⟨(some 60), .extract (.t 54) 1, none⟩,
    ⟨(some 61), .extract (.t 54) 2, none⟩,
    ⟨(some 14), .mv (.t 59), none⟩,
    ⟨(some 15), .mv (.t 60), none⟩,
    ⟨(some 16), .mv (.t 61), none⟩])
  (.seq (.seq (.region [7, 8, 11, 81] [⟨(some 62), .mv (.t 10), none⟩,
    ⟨(some 63), .mv (.t 16), none⟩,
    ⟨(some 64), .bin .neq (.t 62) (.t 63), none⟩,
    ⟨(some 65), .mv (.t 64), none⟩,
    ⟨(some 66), .mv (.t 9), some (65, false)⟩,
    ⟨(some 67), .mv (.t 15), some (65, false)⟩,
    ⟨(some 68), .bin .neq (.t 66) (.t 67), some (65, false)⟩,
    ⟨(some 69), .pick (.t 65) (.c (.bool true)) (.t 68), none⟩,
    ⟨(some 70), .mv (.t 69), none⟩,
    ⟨(some 71), .mv (.t 8), some (70, false)⟩,
    ⟨(some 72), .mv (.t 14), some (70, false)⟩,
    ⟨(some 73), .call .view 357 [(.t 71), (.t 72)], some (70, false)⟩,
    ⟨(some 74), .un .not (.t 73), some (70, false)⟩,
    ⟨(some 75), .pick (.t 70) (.c (.bool true)) (.t 74), none⟩,
    ⟨(some 76), .mv (.t 75), none⟩,
    ⟨(some 77), .mv (.t 7), some (76, false)⟩,
    ⟨(some 78), .mv (.t 2), some (76, false)⟩,
    ⟨(some 79), .call .view 336 [(.t 77), (.t 78)], some (76, false)⟩,
    ⟨(some 80), .un .not (.t 79), some (76, false)⟩,
    ⟨(some 81), .pick (.t 76) (.c (.bool true)) (.t 80), none⟩])
  (.cond (.t 81)
    (.seq (.region [6] [⟨(some 6), .mv (.c (.bool false)), none⟩])
    .ret)
    .skip))
  (.seq (.region [7, 8, 11, 17] [⟨(some 17), .alloc [(.int .i64 0), (.slice none 0 0), (.slice none 0 0), (.slice none 0 0), (.slice none 0 0), (.slice none 0 0), (.slice none 0 0), (.slice none 0 0), (.slice none 0 0), (.slice none 0 0), (.slice none 0 0), (.slice none 0 0), (.slice none 0 0), (.slice none 0 0), (.slice none 0 0), (.slice none 0 0), (.slice none 0 0), (.slice none 0 0), (.slice none 0 0), (.slice none 0 0), (.slice none 0 0)], none⟩])
  (.seq (.region [8, 11, 17] [⟨(some 82), .mv (.t 7), none⟩,
    ⟨(some 83), .call .share 14 [(.t 17), (.t 82)], none⟩])
  (.seq (.region [11, 17] [⟨(some 84), .mv (.t 8), none⟩,
    ⟨(some 85), .call .share 14 [(.t 17), (.t 84)], none⟩])
  (.seq (.region [17] [⟨(some 86), .mv (.t 11), none⟩,
    ⟨(some 87), .call .share 14 [(.t 17), (.t 86)], none⟩])
  (.seq (.region [6] [⟨(some 88), .call .share 1 [(.t 17)], none⟩,
    ⟨(some 89), .mv (.t 88), none⟩,
    ⟨(some 90), .call .view 496 [], some (89, true)⟩,
    ⟨(some 91), .pick (.t 89) (.t 90) (.c (.bool false)), none⟩,
    ⟨(some 6), .mv (.t 91), none⟩])
  .ret))))))))))))⟩


end Go.EX
