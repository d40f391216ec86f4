/-
  EX: the functions as the interpreter reads them. Written by a program (Gen.lean.txt, mkcode.py).
-/
import Derived.Test.YtmghegmjiagkgaaCore
set_option linter.unusedVariables false
set_option linter.unusedSimpArgs false
namespace Go.EX

def x493L1 : XCode :=
  (.seq (.seq (.region [0, 1, 5, 6, 7, 8, 9, 10, 42] [⟨(some 39), .mv (.t 8), none⟩,
    ⟨(some 40), .mv (.t 10), none⟩,
    ⟨(some 41), .lookup 0 [(.int .i64 0)] false (.t 39) (.t 40) false, none⟩,
    ⟨(some 42), .bin .eql (.t 41) (.c (.int .i64 1)), none⟩])
  (.cond (.t 42)
    .skip
    (.exit 2)))
  (.block 3 (.region [0, 1, 5, 6, 7, 8, 9, 10] [⟨(some 43), .mv (.t 10), none⟩,
    ⟨(some 44), .bin .add (.t 43) (.c (.int .i64 1)), none⟩,
    ⟨(some 10), .mv (.t 44), none⟩])))
def x493L2 : XCode :=
  (.seq (.seq (.region [0, 1, 5, 6, 7, 8, 9, 31] [⟨(some 29), .mv (.t 9), none⟩,
    ⟨(some 30), .mv (.t 5), none⟩,
    ⟨(some 31), .bin .lss (.t 29) (.t 30), none⟩])
  (.cond (.t 31)
    .skip
    (.exit 0)))
  (.seq (.block 1 (.seq (.region [0, 1, 5, 6, 7, 8, 9, 10] [⟨(some 34), .mv (.t 0), none⟩,
    ⟨(some 35), .mv (.t 9), none⟩,
    ⟨(some 36), .idxA 1 (.t 34) (.t 35), none⟩,
    ⟨(some 37), .load none (.t 36), none⟩,
    ⟨(some 38), .conv .i64 (.t 37), none⟩,
    ⟨(some 10), .mv (.t 38), none⟩])
  (.seq (.block 2 (.loop [0, 1, 5, 6, 7, 8, 9, 10] x493L1))
  (.seq (.region [0, 1, 5, 6, 7, 8, 9, 10] [⟨(some 45), .mv (.t 8), none⟩,
    ⟨(some 46), .mv (.t 10), none⟩,
    ⟨none, .mapSet 0 (.t 45) (.t 46) (.c (.int .i64 1)), none⟩])
  (.seq (.region [0, 1, 5, 6, 7, 8, 9, 10] [⟨(some 47), .mv (.t 6), none⟩,
    ⟨(some 48), .mv (.t 10), none⟩,
    ⟨(some 49), .buildSlice 1 [(.int .i64 0)] 1 [(0, 1, (.t 48))], none⟩,
    ⟨(some 50), .append 1 8 (.t 47) (.t 49), none⟩,
    ⟨(some 6), .mv (.t 50), none⟩])
  (.region [0, 1, 5, 6, 7, 8, 9] [⟨(some 51), .mv (.t 7), none⟩,
    ⟨(some 52), .mv (.t 10), none⟩,
    ⟨(some 53), .build [(.int .i64 0), (.int .u8 0), (.int .i64 0)] [(0, 1, (.t 52))], none⟩,
    ⟨(some 54), .buildSlice 3 [(.int .i64 0), (.int .u8 0), (.int .i64 0)] 1 [(0, 3, (.t 53))], none⟩,
    ⟨(some 55), .append 3 24 (.t 51) (.t 54), none⟩,
    ⟨(some 7), .mv (.t 55), none⟩]))))))
  (.region [0, 1, 5, 6, 7, 8, 9] [⟨(some 32), .mv (.t 9), none⟩,
    ⟨(some 33), .bin .add (.t 32) (.c (.int .i64 1)), none⟩,
    ⟨(some 9), .mv (.t 33), none⟩])))
/-- gearbox/gearboxlaw23.DeoptBack · 2 parameters, 0 captured -/
def x493 : XFun := ⟨[.tmp 4],
  (.seq (.region [0, 1] [⟨(some 4), .mv (.c (.bool false)), none⟩])
  (.seq (.region [0, 1, 5] [⟨(some 17), .mv (.t 0), none⟩,
    ⟨(some 18), .len (.t 17), none⟩,
    ⟨(some 5), .mv (.t 18), none⟩])
  (.seq (.seq (.region [0, 1, 5, 22] [⟨(some 19), .mv (.t 5), none⟩,
    ⟨(some 20), .mv (.t 1), none⟩,
    ⟨(some 21), .len (.t 20), none⟩,
    ⟨(some 22), .bin .gtr (.t 19) (.t 21), none⟩])
  (.cond (.t 22)
    (.region [0, 1, 5] [⟨(some 23), .mv (.t 1), none⟩,
      ⟨(some 24), .len (.t 23), none⟩,
      ⟨(some 5), .mv (.t 24), none⟩])
    .skip))
  (.seq (.seq (.region [0, 1, 5, 26] [⟨(some 25), .mv (.t 5), none⟩,
    ⟨(some 26), .bin .gtr (.t 25) (.c (.int .i64 300)), none⟩])
  (.cond (.t 26)
    (.seq (.region [4] [⟨(some 27), .call .view 496 [], none⟩,
      ⟨(some 4), .mv (.t 27), none⟩])
    .ret)
    .skip))
  (.seq (.region [0, 1, 5, 6] [⟨(some 6), .mv (.c (.slice none 0 0)), none⟩])
  (.seq (.region [0, 1, 5, 6, 7] [⟨(some 7), .mv (.c (.slice none 0 0)), none⟩])
  (.seq (.region [0, 1, 5, 6, 7, 8] [⟨(some 28), .makeMap none, none⟩,
    ⟨(some 8), .mv (.t 28), none⟩])
  (.seq (.seq (.region [0, 1, 5, 6, 7, 8, 9] [⟨(some 9), .mv (.c (.int .i64 0)), none⟩])
  (.block 0 (.loop [0, 1, 5, 6, 7, 8, 9] x493L2)))
  (.seq (.region [1, 5, 7, 11] [⟨(some 56), .mv (.t 6), none⟩,
    ⟨(some 57), .build [(.int .i64 0), (.int .i64 0), (.slice none 0 0)] [(0, 1, (.c (.int .i64 3))), (1, 1, (.c (.int .i64 9))), (2, 1, (.t 56))], none⟩,
    ⟨(some 58), .buildSlice 3 [(.int .i64 0), (.int .i64 0), (.slice none 0 0)] 1 [(0, 3, (.t 57))], none⟩,
    ⟨(some 59), .build [(.int .i64 0), (.slice none 0 0), (.slice none 0 0), (.slice none 0 0)] [(0, 1, (.c (.int .i64 600))), (1, 1, (.t 58))], none⟩,
    ⟨(some 11), .alloc [(.int .i64 0), (.slice none 0 0), (.slice none 0 0), (.slice none 0 0)], none⟩,
    ⟨none, .store 4 (.t 11) (.t 59), none⟩])
  (.seq (.region [1, 5, 7, 12, 13, 14] [⟨(some 61), .load (some 4) (.t 11), none⟩,
    ⟨(some 62), .mv (.t 1), none⟩,
    ⟨(some 63), .mv (.t 5), none⟩,
    ⟨(some 64), .slice 2 (.t 62) none (some (.t 63)), none⟩,
    ⟨(some 65), .call .own 287 [(.t 61), (.c (.int .i64 0)), (.t 64)], none⟩,
    ⟨(some 60), .mv (.t 65), none⟩,
    ⟨(some 66), .extract (.t 60) 0, none⟩,
    ⟨(some 67), .extract (.t 60) 1, none⟩,
    ⟨(some 68), .extract (.t 60) 2, none⟩,
    ⟨(some 12), .mv (.t 66), none⟩,
    ⟨(some 13), .mv (.t 67), none⟩,
    ⟨(some 14), .mv (.t 68), none⟩])
  (.seq (.seq (.region [1, 5, 7, 12, 79] [⟨(some 69), .mv (.t 14), none⟩,
    ⟨(some 70), .bin .neq (.t 69) (.c (.int .i64 0)), none⟩,
    ⟨(some 71), .mv (.t 70), none⟩,
    ⟨(some 72), .mv (.t 13), some (71, false)⟩,
    ⟨(some 73), .bin .neq (.t 72) (.c (.int .i64 9)), some (71, false)⟩,
    ⟨(some 74), .pick (.t 71) (.c (.bool true)) (.t 73), none⟩,
    ⟨(some 75), .mv (.t 74), none⟩,
    ⟨(some 76), .mv (.t 12), some (75, false)⟩,
    ⟨(some 77), .len (.t 76), some (75, false)⟩,
    ⟨(some 78), .bin .neq (.t 77) (.c (.int .i64 600)), some (75, false)⟩,
    ⟨(some 79), .pick (.t 75) (.c (.bool true)) (.t 78), none⟩])
  (.cond (.t 79)
    (.seq (.region [4] [⟨(some 4), .mv (.c (.bool false)), none⟩])
    .ret)
    .skip))
  (.seq (.region [1, 5, 15, 16] [⟨(some 81), .mv (.t 7), none⟩,
    ⟨(some 82), .build [(.int .i64 0), (.slice none 0 0)] [(1, 1, (.t 81))], none⟩,
    ⟨(some 83), .mv (.t 12), none⟩,
    ⟨(some 84), .call .own 288 [(.t 82), (.t 83)], none⟩,
    ⟨(some 80), .mv (.t 84), none⟩,
    ⟨(some 85), .extract (.t 80) 0, none⟩,
    ⟨(some 86), .extract (.t 80) 1, none⟩,
    ⟨(some 15), .mv (.t 85), none⟩,
    ⟨(some 16), .mv (.t 86), none⟩])
  (.seq (.region [4] [⟨(some 87), .mv (.t 16), none⟩,
    ⟨(some 88), .bin .eql (.t 87) (.c (.int .i64 0)), none⟩,
    ⟨(some 89), .mv (.t 88), none⟩,
    ⟨(some 90), .mv (.t 15), some (89, true)⟩,
    ⟨(some 91), .mv (.t 1), some (89, true)⟩,
    ⟨(some 92), .mv (.t 5), some (89, true)⟩,
    ⟨(some 93), .slice 2 (.t 91) none (some (.t 92)), some (89, true)⟩,
    ⟨(some 94), .call .view 357 [(.t 90), (.t 93)], some (89, true)⟩,
    ⟨(some 95), .pick (.t 89) (.t 94) (.c (.bool false)), none⟩,
    ⟨(some 96), .mv (.t 95), none⟩,
    ⟨(some 97), .call .view 496 [], some (96, true)⟩,
    ⟨(some 98), .pick (.t 96) (.t 97) (.c (.bool false)), none⟩,
    ⟨(some 4), .mv (.t 98), none⟩])
  .ret)))))))))))))⟩

/-- gearbox/gearboxlaw23.lives · 0 parameters, 0 captured -/
def x496 : XFun := ⟨[.tmp 0],
  (.seq (.region [] [⟨(some 0), .mv (.c (.bool false)), none⟩])
  (.seq (.region [1, 2] [⟨(some 9), .build [(.int .i64 0), (.int .u8 0), (.int .i64 0)] [(0, 1, (.c (.int .i64 1)))], none⟩,
    ⟨(some 10), .build [(.int .i64 0), (.int .u8 0), (.int .i64 0)] [(0, 1, (.c (.int .i64 (-1)))), (1, 1, (.c (.int .u8 2))), (2, 1, (.c (.int .i64 5)))], none⟩,
    ⟨(some 11), .buildSlice 3 [(.int .i64 0), (.int .u8 0), (.int .i64 0)] 2 [(0, 3, (.t 9)), (3, 3, (.t 10))], none⟩,
    ⟨(some 12), .build [(.int .i64 0), (.slice none 0 0)] [(1, 1, (.t 11))], none⟩,
    ⟨(some 13), .call .view 497 [(.c (.int .i64 7))], none⟩,
    ⟨(some 14), .call .view 497 [(.c (.int .i64 8))], none⟩,
    ⟨(some 15), .buildSlice 2 [(.int .u8 0), (.int .i64 0)] 2 [(0, 2, (.t 13)), (2, 2, (.t 14))], none⟩,
    ⟨(some 16), .call .own 288 [(.t 12), (.t 15)], none⟩,
    ⟨(some 8), .mv (.t 16), none⟩,
    ⟨(some 17), .extract (.t 8) 0, none⟩,
    ⟨(some 18), .extract (.t 8) 1, none⟩,
    ⟨(some 1), .mv (.t 17), none⟩,
    ⟨(some 2), .mv (.t 18), none⟩])
  (.seq (.region [1, 2, 4] [⟨(some 20), .build [(.int .i64 0), (.int .u8 0), (.int .i64 0)] [(0, 1, (.c (.int .i64 2)))], none⟩,
    ⟨(some 21), .buildSlice 3 [(.int .i64 0), (.int .u8 0), (.int .i64 0)] 1 [(0, 3, (.t 20))], none⟩,
    ⟨(some 22), .build [(.int .i64 0), (.slice none 0 0)] [(1, 1, (.t 21))], none⟩,
    ⟨(some 23), .call .view 497 [(.c (.int .i64 7))], none⟩,
    ⟨(some 24), .call .view 497 [(.c (.int .i64 8))], none⟩,
    ⟨(some 25), .buildSlice 2 [(.int .u8 0), (.int .i64 0)] 2 [(0, 2, (.t 23)), (2, 2, (.t 24))], none⟩,
    ⟨(some 26), .call .own 288 [(.t 22), (.t 25)], none⟩,
    ⟨(some 19), .mv (.t 26), none⟩,
    ⟨(some 27), .extract (.t 19) 0, none⟩,
    ⟨(some 28), .extract (.t 19) 1, none⟩,
    ⟨(some 3), .mv (.t 27), none⟩,
    ⟨(some 4), .mv (.t 28), none⟩])
  (.seq (.region [1, 2, 4, 5, 6, 7] [⟨(some 30), .buildSlice 1 [(.int .i64 0)] 2 [(0, 1, (.c (.int .i64 2))), (1, 1, (.c (.int .i64 0)))], none⟩,
    ⟨(some 31), .build [(.int .i64 0), (.int .i64 0), (.slice none 0 0)] [(1, 1, (.c (.int .i64 4))), (2, 1, (.t 30))], none⟩,
    ⟨(some 32), .buildSlice 3 [(.int .i64 0), (.int .i64 0), (.slice none 0 0)] 1 [(0, 3, (.t 31))], none⟩,
    ⟨(some 33), .build [(.int .i64 0), (.slice none 0 0), (.slice none 0 0), (.slice none 0 0)] [(0, 1, (.c (.int .i64 3))), (1, 1, (.t 32))], none⟩,
    ⟨(some 34), .call .view 497 [(.c (.int .i64 7))], none⟩,
    ⟨(some 35), .call .view 497 [(.c (.int .i64 8))], none⟩,
    ⟨(some 36), .buildSlice 2 [(.int .u8 0), (.int .i64 0)] 2 [(0, 2, (.t 34)), (2, 2, (.t 35))], none⟩,
    ⟨(some 37), .call .own 287 [(.t 33), (.c (.int .i64 0)), (.t 36)], none⟩,
    ⟨(some 29), .mv (.t 37), none⟩,
    ⟨(some 38), .extract (.t 29) 0, none⟩,
    ⟨(some 39), .extract (.t 29) 1, none⟩,
    ⟨(some 40), .extract (.t 29) 2, none⟩,
    ⟨(some 5), .mv (.t 38), none⟩,
    ⟨(some 6), .mv (.t 39), none⟩,
    ⟨(some 7), .mv (.t 40), none⟩])
  (.seq (.region [0] [⟨(some 41), .mv (.t 2), none⟩,
    ⟨(some 42), .bin .eql (.t 41) (.c (.int .i64 0)), none⟩,
    ⟨(some 43), .mv (.t 42), none⟩,
    ⟨(some 44), .mv (.t 4), some (43, true)⟩,
    ⟨(some 45), .bin .eql (.t 44) (.c (.int .i64 1)), some (43, true)⟩,
    ⟨(some 46), .pick (.t 43) (.t 45) (.c (.bool false)), none⟩,
    ⟨(some 47), .mv (.t 46), none⟩,
    ⟨(some 48), .mv (.t 7), some (47, true)⟩,
    ⟨(some 49), .bin .eql (.t 48) (.c (.int .i64 0)), some (47, true)⟩,
    ⟨(some 50), .pick (.t 47) (.t 49) (.c (.bool false)), none⟩,
    ⟨(some 51), .mv (.t 50), none⟩,
    ⟨(some 52), .mv (.t 1), some (51, true)⟩,
    ⟨(some 53), .len (.t 52), some (51, true)⟩,
    ⟨(some 54), .bin .eql (.t 53) (.c (.int .i64 2)), some (51, true)⟩,
    ⟨(some 55), .pick (.t 51) (.t 54) (.c (.bool false)), none⟩,
    ⟨(some 56), .mv (.t 55), none⟩,
    ⟨(some 57), .mv (.t 1), some (56, true)⟩,
    ⟨(some 58), .idxA 2 (.t 57) (.c (.int .i64 0)), some (56, true)⟩,
    ⟨(some 59), .load (some 2) (.t 58), some (56, true)⟩,
    ⟨(some 60), .call .view 497 [(.c (.int .i64 8))], some (56, true)⟩,
    ⟨(some 61), .eqCells false [0, 0] (.t 59) (.t 60), some (56, true)⟩,
    ⟨(some 62), .pick (.t 56) (.t 61) (.c (.bool false)), none⟩,
    ⟨(some 63), .mv (.t 62), none⟩,
    ⟨(some 64), .mv (.t 1), some (63, true)⟩,
    ⟨(some 65), .idxA 2 (.t 64) (.c (.int .i64 1)), some (63, true)⟩,
    ⟨(some 66), .load (some 2) (.t 65), some (63, true)⟩,
    ⟨(some 67), .call .view 497 [(.c (.int .i64 5))], some (63, true)⟩,
    ⟨(some 68), .eqCells false [0, 0] (.t 66) (.t 67), some (63, true)⟩,
    ⟨(some 69), .pick (.t 63) (.t 68) (.c (.bool false)), none⟩,
    ⟨(some 70), .mv (.t 69), none⟩,
    ⟨(some 71), .mv (.t 6), some (70, true)⟩,
    ⟨(some 72), .bin .eql (.t 71) (.c (.int .i64 4)), some (70, true)⟩,
    ⟨(some 73), .pick (.t 70) (.t 72) (.c (.bool false)), none⟩,
    ⟨(some 74), .mv (.t 73), none⟩,
    ⟨(some 75), .mv (.t 5), some (74, true)⟩,
    ⟨(some 76), .len (.t 75), some (74, true)⟩,
    ⟨(some 77), .bin .eql (.t 76) (.c (.int .i64 3)), some (74, true)⟩,
    ⟨(some 78), .pick (.t 74) (.t 77) (.c (.bool false)), none⟩,
    ⟨(some 79), .mv (.t 78), none⟩,
    ⟨(some 80), .mv (.t 5), some (79, true)⟩,
    ⟨(some 81), .idxA 2 (.t 80) (.c (.int .i64 0)), some (79, true)⟩,
    ⟨(some 82), .load (some 2) (.t 81), some (79, true)⟩,
    ⟨(some 83), .call .view 497 [(.c (.int .i64 8))], some (79, true)⟩,
    ⟨(some 84), .eqCells false [0, 0] (.t 82) (.t 83), some (79, true)⟩,
    ⟨(some 85), .pick (.t 79) (.t 84) (.c (.bool false)), none⟩,
    ⟨(some 86), .mv (.t 85), none⟩,
    ⟨(some 87), .mv (.t 5), some (86, true)⟩,
    ⟨(some 88), .idxA 2 (.t 87) (.c (.int .i64 1)), some (86, true)⟩,
    ⟨(some 89), .load (some 2) (.t 88), some (86, true)⟩,
    ⟨(some 90), .build [(.int .u8 0), (.int .i64 0)] [], some (86, true)⟩,
    ⟨(some 91), .eqCells false [0, 0] (.t 89) (.t 90), some (86, true)⟩,
    ⟨(some 92), .pick (.t 86) (.t 91) (.c (.bool false)), none⟩,
    ⟨(some 93), .mv (.t 92), none⟩,
    ⟨(some 94), .mv (.t 5), some (93, true)⟩,
    ⟨(some 95), .idxA 2 (.t 94) (.c (.int .i64 2)), some (93, true)⟩,
    ⟨(some 96), .load (some 2) (.t 95), some (93, true)⟩,
    ⟨(some 97), .call .view 497 [(.c (.int .i64 7))], some (93, true)⟩,
    ⟨(some 98), .eqCells false [0, 0] (.t 96) (.t 97), some (93, true)⟩,
    ⟨(some 99), .pick (.t 93) (.t 98) (.c (.bool false)), none⟩,
    ⟨(some 0), .mv (.t 99), none⟩])
  .ret)))))⟩

def x287L1 : XCode :=
  (.seq (.region [1, 3, 9, 10, 11, 60, 61, 62, 63] [⟨(some 63), .bin .lss (.t 62) (.t 61), none⟩])
  (.seq (.cond (.t 63)
    .skip
    (.exit 0))
  (.seq (.block 1 (.seq (.region [1, 3, 9, 10, 11, 12, 13, 60, 61, 62] [⟨(some 64), .mv (.t 62), none⟩,
    ⟨(some 65), .idxA 1 (.t 60) (.t 62), none⟩,
    ⟨(some 66), .load none (.t 65), none⟩,
    ⟨(some 12), .mv (.t 64), none⟩,
    ⟨(some 13), .mv (.t 66), none⟩])
  (.seq (.seq (.region [1, 3, 9, 10, 11, 12, 13, 60, 61, 62, 81] [⟨(some 67), .mv (.t 13), none⟩,
    ⟨(some 68), .bin .lss (.t 67) (.c (.int .i64 0)), none⟩,
    ⟨(some 69), .mv (.t 68), none⟩,
    ⟨(some 70), .mv (.t 13), some (69, false)⟩,
    ⟨(some 71), .fieldA 0 (.t 3), some (69, false)⟩,
    ⟨(some 72), .load none (.t 71), some (69, false)⟩,
    ⟨(some 73), .bin .geq (.t 70) (.t 72), some (69, false)⟩,
    ⟨(some 74), .pick (.t 69) (.c (.bool true)) (.t 73), none⟩,
    ⟨(some 75), .mv (.t 74), none⟩,
    ⟨(some 76), .mv (.t 10), some (75, false)⟩,
    ⟨(some 77), .mv (.t 12), some (75, false)⟩,
    ⟨(some 78), .slice 1 (.t 76) none (some (.t 77)), some (75, false)⟩,
    ⟨(some 79), .mv (.t 13), some (75, false)⟩,
    ⟨(some 80), .call .view 753 [(.t 78), (.t 79)], some (75, false)⟩,
    ⟨(some 81), .pick (.t 75) (.c (.bool true)) (.t 80), none⟩])
  (.cond (.t 81)
    (.seq (.region [6, 7, 8] [⟨(some 6), .mv (.c (.slice none 0 0)), none⟩,
      ⟨(some 7), .mv (.c (.int .i64 0)), none⟩,
      ⟨(some 8), .mv (.c (.int .i64 1)), none⟩])
    .ret)
    .skip))
  (.region [1, 3, 9, 10, 11, 60, 61, 62] [⟨(some 82), .mv (.t 11), none⟩,
    ⟨(some 83), .mv (.t 13), none⟩,
    ⟨(some 84), .mv (.t 9), none⟩,
    ⟨(some 85), .mv (.t 12), none⟩,
    ⟨(some 86), .idxA 2 (.t 84) (.t 85), none⟩,
    ⟨(some 87), .load (some 2) (.t 86), none⟩,
    ⟨(some 88), .idxA 2 (.t 82) (.t 83), none⟩,
    ⟨none, .store 2 (.t 88) (.t 87), none⟩]))))
  (.region [1, 3, 9, 10, 11, 60, 61, 62] [⟨(some 89), .bin .add (.t 62) (.c (.int .i64 1)), none⟩,
    ⟨(some 62), .mv (.t 89), none⟩]))))
/-- gearbox/deopt.Enter · 3 parameters, 0 captured -/
def x287 : XFun := ⟨[.tmp 6, .tmp 7, .tmp 8],
  (.seq (.region [1, 2, 3] [⟨(some 3), .box 4 (.t 0), none⟩,
    ⟨(some 6), .mv (.c (.slice none 0 0)), none⟩,
    ⟨(some 7), .mv (.c (.int .i64 0)), none⟩,
    ⟨(some 8), .mv (.c (.int .i64 0)), none⟩])
  (.seq (.seq (.region [1, 2, 3, 44] [⟨(some 14), .mv (.t 1), none⟩,
    ⟨(some 15), .bin .lss (.t 14) (.c (.int .i64 0)), none⟩,
    ⟨(some 16), .mv (.t 15), none⟩,
    ⟨(some 17), .mv (.t 1), some (16, false)⟩,
    ⟨(some 18), .fieldA 1 (.t 3), some (16, false)⟩,
    ⟨(some 19), .load none (.t 18), some (16, false)⟩,
    ⟨(some 20), .len (.t 19), some (16, false)⟩,
    ⟨(some 21), .bin .geq (.t 17) (.t 20), some (16, false)⟩,
    ⟨(some 22), .pick (.t 16) (.c (.bool true)) (.t 21), none⟩,
    ⟨(some 23), .mv (.t 22), none⟩,
    ⟨(some 24), .fieldA 0 (.t 3), some (23, false)⟩,
    ⟨(some 25), .load none (.t 24), some (23, false)⟩,
    ⟨(some 26), .bin .lss (.t 25) (.c (.int .i64 0)), some (23, false)⟩,
    ⟨(some 27), .pick (.t 23) (.c (.bool true)) (.t 26), none⟩,
    ⟨(some 28), .mv (.t 27), none⟩,
    ⟨(some 29), .fieldA 0 (.t 3), some (28, false)⟩,
    ⟨(some 30), .load none (.t 29), some (28, false)⟩,
    ⟨(some 31), .bin .gtr (.t 30) (.c (.int .i64 4096)), some (28, false)⟩,
    ⟨(some 32), .pick (.t 28) (.c (.bool true)) (.t 31), none⟩,
    ⟨(some 33), .mv (.t 32), none⟩,
    ⟨(some 34), .fieldA 1 (.t 3), some (33, false)⟩,
    ⟨(some 35), .load none (.t 34), some (33, false)⟩,
    ⟨(some 36), .mv (.t 1), some (33, false)⟩,
    ⟨(some 37), .idxA 3 (.t 35) (.t 36), some (33, false)⟩,
    ⟨(some 38), .fieldA 2 (.t 37), some (33, false)⟩,
    ⟨(some 39), .load none (.t 38), some (33, false)⟩,
    ⟨(some 40), .len (.t 39), some (33, false)⟩,
    ⟨(some 41), .mv (.t 2), some (33, false)⟩,
    ⟨(some 42), .len (.t 41), some (33, false)⟩,
    ⟨(some 43), .bin .neq (.t 40) (.t 42), some (33, false)⟩,
    ⟨(some 44), .pick (.t 33) (.c (.bool true)) (.t 43), none⟩])
  (.cond (.t 44)
    (.seq (.region [6, 7, 8] [⟨(some 6), .mv (.c (.slice none 0 0)), none⟩,
      ⟨(some 7), .mv (.c (.int .i64 0)), none⟩,
      ⟨(some 8), .mv (.c (.int .i64 1)), none⟩])
    .ret)
    .skip))
  (.seq (.region [1, 2, 3, 9] [⟨(some 45), .mv (.t 2), none⟩,
    ⟨(some 46), .len (.t 45), none⟩,
    ⟨(some 47), .makeSlice 2 16 [(.int .u8 0), (.int .i64 0)] (.t 46) (.t 46), none⟩,
    ⟨(some 9), .mv (.t 47), none⟩])
  (.seq (.region [1, 3, 9] [⟨(some 48), .mv (.t 9), none⟩,
    ⟨(some 49), .mv (.t 2), none⟩,
    ⟨(some 50), .copy 2 (.t 48) (.t 49), none⟩])
  (.seq (.region [1, 3, 9, 10] [⟨(some 51), .fieldA 1 (.t 3), none⟩,
    ⟨(some 52), .load none (.t 51), none⟩,
    ⟨(some 53), .mv (.t 1), none⟩,
    ⟨(some 54), .idxA 3 (.t 52) (.t 53), none⟩,
    ⟨(some 55), .fieldA 2 (.t 54), none⟩,
    ⟨(some 56), .load none (.t 55), none⟩,
    ⟨(some 10), .mv (.t 56), none⟩])
  (.seq (.region [1, 3, 9, 10, 11] [⟨(some 57), .fieldA 0 (.t 3), none⟩,
    ⟨(some 58), .load none (.t 57), none⟩,
    ⟨(some 59), .makeSlice 2 16 [(.int .u8 0), (.int .i64 0)] (.t 58) (.t 58), none⟩,
    ⟨(some 11), .mv (.t 59), none⟩])
  (.seq (.seq (.region [1, 3, 9, 10, 11, 60, 61, 62] [⟨(some 60), .mv (.t 10), none⟩,
    ⟨(some 61), .len (.t 60), none⟩,
    ⟨(some 62), .mv (.c (.int .i64 0)), none⟩])
  (.block 0 (.loop [1, 3, 9, 10, 11, 60, 61, 62] x287L1)))
  (.seq (.region [6, 7, 8] [⟨(some 90), .mv (.t 11), none⟩,
    ⟨(some 91), .fieldA 1 (.t 3), none⟩,
    ⟨(some 92), .load none (.t 91), none⟩,
    ⟨(some 93), .mv (.t 1), none⟩,
    ⟨(some 94), .idxA 3 (.t 92) (.t 93), none⟩,
    ⟨(some 95), .fieldA 1 (.t 94), none⟩,
    ⟨(some 96), .load none (.t 95), none⟩,
    ⟨(some 6), .mv (.t 90), none⟩,
    ⟨(some 7), .mv (.t 96), none⟩,
    ⟨(some 8), .mv (.c (.int .i64 0)), none⟩])
  .ret))))))))⟩

def x288L1 : XCode :=
  (.seq (.region [1, 6, 14, 15, 16, 17] [⟨(some 17), .bin .lss (.t 16) (.t 15), none⟩])
  (.seq (.cond (.t 17)
    .skip
    (.exit 0))
  (.seq (.block 1 (.seq (.region [1, 6, 7, 8, 14, 15, 16] [⟨(some 18), .mv (.t 16), none⟩,
    ⟨(some 19), .idxA 3 (.t 14) (.t 16), none⟩,
    ⟨(some 20), .load (some 3) (.t 19), none⟩,
    ⟨(some 8), .alloc [(.int .i64 0), (.int .u8 0), (.int .i64 0)], none⟩,
    ⟨(some 7), .mv (.t 18), none⟩,
    ⟨none, .store 3 (.t 8) (.t 20), none⟩])
  (.seq (.region [1, 6, 14, 15, 16, 27] [⟨(some 21), .load (some 3) (.t 8), none⟩,
    ⟨(some 22), .mv (.t 1), none⟩,
    ⟨(some 23), .mv (.t 6), none⟩,
    ⟨(some 24), .mv (.t 7), none⟩,
    ⟨(some 25), .idxA 2 (.t 23) (.t 24), none⟩,
    ⟨(some 26), .call .share 289 [(.t 21), (.t 22), (.t 25)], none⟩,
    ⟨(some 27), .un .not (.t 26), none⟩])
  (.cond (.t 27)
    (.seq (.region [4, 5] [⟨(some 4), .mv (.c (.slice none 0 0)), none⟩,
      ⟨(some 5), .mv (.c (.int .i64 1)), none⟩])
    .ret)
    .skip))))
  (.region [1, 6, 14, 15, 16] [⟨(some 28), .bin .add (.t 16) (.c (.int .i64 1)), none⟩,
    ⟨(some 16), .mv (.t 28), none⟩]))))
/-- gearbox/deopt.Frame · 2 parameters, 0 captured -/
def x288 : XFun := ⟨[.tmp 4, .tmp 5],
  (.seq (.region [1, 2] [⟨(some 2), .box 2 (.t 0), none⟩,
    ⟨(some 4), .mv (.c (.slice none 0 0)), none⟩,
    ⟨(some 5), .mv (.c (.int .i64 0)), none⟩])
  (.seq (.region [1, 2, 6] [⟨(some 9), .fieldA 1 (.t 2), none⟩,
    ⟨(some 10), .load none (.t 9), none⟩,
    ⟨(some 11), .len (.t 10), none⟩,
    ⟨(some 12), .makeSlice 2 16 [(.int .u8 0), (.int .i64 0)] (.t 11) (.t 11), none⟩,
    ⟨(some 6), .mv (.t 12), none⟩])
  (.seq (.seq (.region [1, 6, 14, 15, 16] [⟨(some 13), .fieldA 1 (.t 2), none⟩,
    ⟨(some 14), .load none (.t 13), none⟩,
    ⟨(some 15), .len (.t 14), none⟩,
    ⟨(some 16), .mv (.c (.int .i64 0)), none⟩])
  (.block 0 (.loop [1, 6, 14, 15, 16] x288L1)))
  (.seq (.region [4, 5] [⟨(some 29), .mv (.t 6), none⟩,
    ⟨(some 4), .mv (.t 29), none⟩,
    ⟨(some 5), .mv (.c (.int .i64 0)), none⟩])
  .ret))))⟩

def x357L1 : XCode :=
  (.seq (.seq (.region [0, 1, 5, 14] [⟨(some 11), .mv (.t 5), none⟩,
    ⟨(some 12), .mv (.t 0), none⟩,
    ⟨(some 13), .len (.t 12), none⟩,
    ⟨(some 14), .bin .lss (.t 11) (.t 13), none⟩])
  (.cond (.t 14)
    .skip
    (.exit 0)))
  (.seq (.block 1 (.seq (.region [0, 1, 5, 25] [⟨(some 17), .mv (.t 0), none⟩,
    ⟨(some 18), .mv (.t 5), none⟩,
    ⟨(some 19), .idxA 2 (.t 17) (.t 18), none⟩,
    ⟨(some 20), .load (some 2) (.t 19), none⟩,
    ⟨(some 21), .mv (.t 1), none⟩,
    ⟨(some 22), .mv (.t 5), none⟩,
    ⟨(some 23), .idxA 2 (.t 21) (.t 22), none⟩,
    ⟨(some 24), .load (some 2) (.t 23), none⟩,
    ⟨(some 25), .eqCells true [0, 0] (.t 20) (.t 24), none⟩])
  (.cond (.t 25)
    (.seq (.region [4] [⟨(some 4), .mv (.c (.bool false)), none⟩])
    .ret)
    .skip)))
  (.region [0, 1, 5] [⟨(some 15), .mv (.t 5), none⟩,
    ⟨(some 16), .bin .add (.t 15) (.c (.int .i64 1)), none⟩,
    ⟨(some 5), .mv (.t 16), none⟩])))
/-- gearbox/gearboxlaw01.SameVals · 2 parameters, 0 captured -/
def x357 : XFun := ⟨[.tmp 4],
  (.seq (.region [0, 1] [⟨(some 4), .mv (.c (.bool false)), none⟩])
  (.seq (.seq (.region [0, 1, 10] [⟨(some 6), .mv (.t 0), none⟩,
    ⟨(some 7), .len (.t 6), none⟩,
    ⟨(some 8), .mv (.t 1), none⟩,
    ⟨(some 9), .len (.t 8), none⟩,
    ⟨(some 10), .bin .neq (.t 7) (.t 9), none⟩])
  (.cond (.t 10)
    (.seq (.region [4] [⟨(some 4), .mv (.c (.bool false)), none⟩])
    .ret)
    .skip))
  (.seq (.seq (.region [0, 1, 5] [⟨(some 5), .mv (.c (.int .i64 0)), none⟩])
  (.block 0 (.loop [0, 1, 5] x357L1)))
  (.seq (.region [4] [⟨(some 4), .mv (.c (.bool true)), none⟩])
  .ret))))⟩

/-- gearbox/gearboxlaw23.whole · 1 parameters, 0 captured -/
def x497 : XFun := ⟨[.cell 2 (some 2)],
  (.seq (.region [0, 2] [⟨(some 2), .alloc [(.int .u8 0), (.int .i64 0)], none⟩])
  (.seq (.region [2] [⟨(some 3), .mv (.t 0), none⟩,
    ⟨(some 4), .build [(.int .u8 0), (.int .i64 0)] [(0, 1, (.c (.int .u8 2))), (1, 1, (.t 3))], none⟩,
    ⟨none, .store 2 (.t 2) (.t 4), none⟩])
  .ret))⟩

/-- slices.Contains[[]int,int] · 2 parameters, 0 captured -/
def x753 : XFun := ⟨[.tmp 4],
  (.seq (.region [0, 1] [⟨(some 4), .mv (.c (.bool false)), none⟩])
  (.seq (.region [4] [⟨(some 5), .mv (.t 0), none⟩,
    ⟨(some 6), .mv (.t 1), none⟩,
    ⟨(some 7), .call .view 764 [(.t 5), (.t 6)], none⟩,
    ⟨(some 8), .bin .geq (.t 7) (.c (.int .i64 0)), none⟩,
    ⟨(some 4), .mv (.t 8), none⟩])
  .ret))⟩

/-- gearbox/deopt.tell · 3 parameters, 0 captured -/
def x289 : XFun := ⟨[.tmp 6],
  (.seq (.region [1, 2, 3] [⟨(some 3), .box 3 (.t 0), none⟩,
    ⟨(some 6), .mv (.c (.bool false)), none⟩])
  (.seq (.block 0 (.seq (.region [1, 2, 3, 7] [⟨(some 8), .fieldA 0 (.t 3), none⟩,
    ⟨(some 9), .load none (.t 8), none⟩,
    ⟨(some 10), .mv (.t 1), none⟩,
    ⟨(some 11), .len (.t 10), none⟩,
    ⟨(some 12), .bin .geq (.t 9) (.t 11), none⟩,
    ⟨(some 7), .mv (.t 12), none⟩])
  (.cond (.t 7)
    (.seq (.region [6] [⟨(some 6), .mv (.c (.bool false)), none⟩])
    .ret)
    (.seq (.region [1, 2, 3, 13] [⟨(some 14), .fieldA 0 (.t 3), none⟩,
      ⟨(some 15), .load none (.t 14), none⟩,
      ⟨(some 16), .bin .geq (.t 15) (.c (.int .i64 0)), none⟩,
      ⟨(some 13), .mv (.t 16), none⟩])
    (.cond (.t 13)
      (.region [] [⟨(some 17), .mv (.t 2), none⟩,
        ⟨(some 18), .mv (.t 1), none⟩,
        ⟨(some 19), .fieldA 0 (.t 3), none⟩,
        ⟨(some 20), .load none (.t 19), none⟩,
        ⟨(some 21), .idxA 2 (.t 18) (.t 20), none⟩,
        ⟨(some 22), .load (some 2) (.t 21), none⟩,
        ⟨(some 23), .nilCheck (.t 17), none⟩,
        ⟨none, .store 2 (.t 23) (.t 22), none⟩])
      (.seq (.region [2, 3, 24] [⟨(some 25), .fieldA 1 (.t 3), none⟩,
        ⟨(some 26), .load none (.t 25), none⟩,
        ⟨(some 27), .bin .eql (.t 26) (.c (.int .u8 2)), none⟩,
        ⟨(some 28), .mv (.t 27), none⟩,
        ⟨(some 29), .fieldA 1 (.t 3), some (28, false)⟩,
        ⟨(some 30), .load none (.t 29), some (28, false)⟩,
        ⟨(some 31), .bin .eql (.t 30) (.c (.int .u8 0)), some (28, false)⟩,
        ⟨(some 32), .mv (.t 31), some (28, false)⟩,
        ⟨(some 33), .fieldA 2 (.t 3), some (32, true)⟩,
        ⟨(some 34), .load none (.t 33), some (32, true)⟩,
        ⟨(some 35), .bin .eql (.t 34) (.c (.int .i64 0)), some (32, true)⟩,
        ⟨(some 36), .pick (.t 32) (.t 35) (.c (.bool false)), some (28, false)⟩,
        ⟨(some 37), .pick (.t 28) (.c (.bool true)) (.t 36), none⟩,
        ⟨(some 38), .mv (.t 37), none⟩,
        ⟨(some 39), .fieldA 1 (.t 3), some (38, false)⟩,
        ⟨(some 40), .load none (.t 39), some (38, false)⟩,
        ⟨(some 41), .bin .eql (.t 40) (.c (.int .u8 1)), some (38, false)⟩,
        ⟨(some 42), .mv (.t 41), some (38, false)⟩,
        ⟨(some 43), .fieldA 2 (.t 3), some (42, true)⟩,
        ⟨(some 44), .load none (.t 43), some (42, true)⟩,
        ⟨(some 45), .bin .eql (.t 44) (.c (.int .i64 0)), some (42, true)⟩,
        ⟨(some 46), .mv (.t 45), some (42, true)⟩,
        ⟨(some 47), .fieldA 2 (.t 3), some (46, false)⟩,
        ⟨(some 48), .load none (.t 47), some (46, false)⟩,
        ⟨(some 49), .bin .eql (.t 48) (.c (.int .i64 1)), some (46, false)⟩,
        ⟨(some 50), .pick (.t 46) (.c (.bool true)) (.t 49), some (42, true)⟩,
        ⟨(some 51), .pick (.t 42) (.t 50) (.c (.bool false)), some (38, false)⟩,
        ⟨(some 52), .pick (.t 38) (.c (.bool true)) (.t 51), none⟩,
        ⟨(some 24), .mv (.t 52), none⟩])
      (.cond (.t 24)
        (.region [] [⟨(some 53), .mv (.t 2), none⟩,
          ⟨(some 54), .fieldA 1 (.t 3), none⟩,
          ⟨(some 55), .load none (.t 54), none⟩,
          ⟨(some 56), .fieldA 2 (.t 3), none⟩,
          ⟨(some 57), .load none (.t 56), none⟩,
          ⟨(some 58), .build [(.int .u8 0), (.int .i64 0)] [(0, 1, (.t 55)), (1, 1, (.t 57))], none⟩,
          ⟨(some 59), .nilCheck (.t 53), none⟩,
          ⟨none, .store 2 (.t 59) (.t 58), none⟩])
        (.seq (.region [6] [⟨(some 6), .mv (.c (.bool false)), none⟩])
        .ret))))))))
  (.seq (.region [6] [⟨(some 6), .mv (.c (.bool true)), none⟩])
  .ret)))⟩

def x764L1 : XCode :=
  (.seq (.region [0, 1, 7, 8, 9] [⟨(some 9), .bin .lss (.t 8) (.t 7), none⟩])
  (.seq (.cond (.t 9)
    .skip
    (.exit 0))
  (.seq (.block 1 (.seq (.region [0, 1, 5, 7, 8] [⟨(some 10), .mv (.t 8), none⟩,
    ⟨(some 5), .mv (.t 10), none⟩])
  (.seq (.region [0, 1, 5, 7, 8, 16] [⟨(some 11), .mv (.t 1), none⟩,
    ⟨(some 12), .mv (.t 0), none⟩,
    ⟨(some 13), .mv (.t 5), none⟩,
    ⟨(some 14), .idxA 1 (.t 12) (.t 13), none⟩,
    ⟨(some 15), .load none (.t 14), none⟩,
    ⟨(some 16), .bin .eql (.t 11) (.t 15), none⟩])
  (.cond (.t 16)
    (.seq (.region [4] [⟨(some 17), .mv (.t 5), none⟩,
      ⟨(some 4), .mv (.t 17), none⟩])
    .ret)
    .skip))))
  (.region [0, 1, 7, 8] [⟨(some 18), .bin .add (.t 8) (.c (.int .i64 1)), none⟩,
    ⟨(some 8), .mv (.t 18), none⟩]))))
/-- slices.Index[[]int,int] · 2 parameters, 0 captured -/
def x764 : XFun := ⟨[.tmp 4],
  (.seq (.region [0, 1] [⟨(some 4), .mv (.c (.int .i64 0)), none⟩])
  (.seq (.seq (.region [0, 1, 7, 8] [⟨(some 6), .mv (.t 0), none⟩,
    ⟨(some 7), .len (.t 6), none⟩,
    ⟨(some 8), .mv (.c (.int .i64 0)), none⟩])
  (.block 0 (.loop [0, 1, 7, 8] x764L1)))
  (.seq (.region [4] [⟨(some 4), .mv (.c (.int .i64 (-1))), none⟩])
  .ret)))⟩


end Go.EX
