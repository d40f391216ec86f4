/-
  EX: the functions as the interpreter reads them. Written by a program (Gen.lean.txt, mkcode.py).
-/
import Derived.Test.YtmghegmjiagkgaaGreatDoorK1
set_option linter.unusedVariables false
set_option linter.unusedSimpArgs false
namespace Go.EX

/-- gearbox/gearboxlaw23.lives · 0 parameters, 0 captured -/
def x496 : XFun := ⟨[.tmp 0],
  (.seq (.region [] [⟨(some 0), .mv (.c (.bool false)), none⟩])
  (.seq (.region [1, 2] [⟨(some 9), .build [(.int .i64 0), (.int .u8 0), (.int .i64 0)] [(0, 1, (.c (.int .i64 1)))], none⟩,
    ⟨(some 10), .build [(.int .i64 0), (.int .u8 0), (.int .i64 0)] [(0, 1, (.c (.int .i64 (-1)))), (1, 1, (.c (.int .u8 2))), (2, 1, (.c (.int .i64 5)))], none⟩,
    ⟨(some 11), .buildSlice 3 [(.int .i64 0), (.int .u8 0), (.int .i64 0)] 2 [(0, 3, (.t 9)), (3, 3, (.t 10))], none⟩,
    ⟨(some 12), .build [(.int .i64 0), (.slice none 0 0)] [(1, 1, (.t 11))], none⟩,
    ⟨(some 13), .call .view 497 [(.c (.int .i64 7))], none⟩,
    ⟨(some 14), .call .view 497 [(.c (.int .i64 8))], none⟩,
    ⟨(some 15), .buildSlice 2 [(.int .u8 0), (.int .i64 0)] 2 [(0, 2, (.t 13)), (2, 2, (.t 14))], none⟩,
    ⟨(some 16), .call .own 288 [(.t 12), (.t 15)], none⟩,
    ⟨(some 8), .mv (.t 16), none⟩,
    ⟨(some 17), .extract (.t 8) 0, none⟩,
    ⟨(some 18), .extract (.t 8) 1, none⟩,
    ⟨(some 1), .mv (.t 17), none⟩,
    ⟨(some 2), .mv (.t 18), none⟩])
  (.seq (.region [1, 2, 4] [⟨(some 20), .build [(.int .i64 0), (.int .u8 0), (.int .i64 0)] [(0, 1, (.c (.int .i64 2)))], none⟩,
    ⟨(some 21), .buildSlice 3 [(.int .i64 0), (.int .u8 0), (.int .i64 0)] 1 [(0, 3, (.t 20))], none⟩,
    ⟨(some 22), .build [(.int .i64 0), (.slice none 0 0)] [(1, 1, (.t 21))], none⟩,
    ⟨(some 23), .call .view 497 [(.c (.int .i64 7))], none⟩,
    ⟨(some 24), .call .view 497 [(.c (.int .i64 8))], none⟩,
    ⟨(some 25), .buildSlice 2 [(.int .u8 0), (.int .i64 0)] 2 [(0, 2, (.t 23)), (2, 2, (.t 24))], none⟩,
    ⟨(some 26), .call .own 288 [(.t 22), (.t 25)], none⟩,
    ⟨(some 19), .mv (.t 26), none⟩,
    ⟨(some 27), .extract (.t 19) 0, none⟩,
    ⟨(some 28), .extract (.t 19) 1, none⟩,
    ⟨(some 3), .mv (.t 27), none⟩,
    ⟨(some 4), .mv (.t 28), none⟩])
  (.seq (.region [1, 2, 4, 5, 6, 7] [⟨(some 30), .buildSlice 1 [(.int .i64 0)] 2 [(0, 1, (.c (.int .i64 2))), (1, 1, (.c (.int .i64 0)))], none⟩,
    ⟨(some 31), .build [(.int .i64 0), (.int .i64 0), (.slice none 0 0)] [(1, 1, (.c (.int .i64 4))), (2, 1, (.t 30))], none⟩,
    ⟨(some 32), .buildSlice 3 [(.int .i64 0), (.int .i64 0), (.slice none 0 0)] 1 [(0, 3, (.t 31))], none⟩,
    ⟨(some 33), .build [(.int .i64 0), (.slice none 0 0), (.slice none 0 0), (.slice none 0 0)] [(0, 1, (.c (.int .i64 3))), (1, 1, (.t 32))], none⟩,
    ⟨(some 34), .call .view 497 [(.c (.int .i64 7))], none⟩,
    ⟨(some 35), .call .view 497 [(.c (.int .i64 8))], none⟩,
    ⟨(some 36), .buildSlice 2 [(.int .u8 0), (.int .i64 0)] 2 [(0, 2, (.t 34)), (2, 2, (.t 35))], none⟩,
    ⟨(some 37), .call .own 287 [(.t 33), (.c (.int .i64 0)), (.t 36)], none⟩,
    ⟨(some 29), .mv (.t 37), none⟩,
    ⟨(some 38), .extract (.t 29) 0, none⟩,
    ⟨(some 39), .extract (.t 29) 1, none⟩,
    ⟨(some 40), .extract (.t 29) 2, none⟩,
    ⟨(some 5), .mv (.t 38), none⟩,
    ⟨(some 6), .mv (.t 39), none⟩,
    ⟨(some 7), .mv (.t 40), none⟩])
  (.seq (.region [0] [⟨(some 41), .mv (.t 2), none⟩,
    ⟨(some 42), .bin .eql (.t 41) (.c (.int .i64 0)), none⟩,
    ⟨(some 43), .mv (.t 42), none⟩,
    ⟨(some 44), .mv (.t 4), some (43, true)⟩,
    ⟨(some 45), .bin .eql (.t 44) (.c (.int .i64 1)), some (43, true)⟩,
    ⟨(some 46), .pick (.t 43) (.t 45) (.c (.bool false)), none⟩,
    ⟨(some 47), .mv (.t 46), none⟩,
    ⟨(some 48), .mv (.t 7), some (47, true)⟩,
    ⟨(some 49), .bin .eql (.t 48) (.c (.int .i64 0)), some (47, true)⟩,
    ⟨(some 50), .pick (.t 47) (.t 49) (.c (.bool false)), none⟩,
    ⟨(some 51), .mv (.t 50), none⟩,
    ⟨(some 52), .mv (.t 1), some (51, true)⟩,
    ⟨(some 53), .len (.t 52), some (51, true)⟩,
    ⟨(some 54), .bin .eql (.t 53) (.c (.int .i64 2)), some (51, true)⟩,
    ⟨(some 55), .pick (.t 51) (.t 54) (.c (.bool false)), none⟩,
    ⟨(some 56), .mv (.t 55), none⟩,
    ⟨(some 57), .mv (.t 1), some (56, true)⟩,
    ⟨(some 58), .idxA 2 (.t 57) (.c (.int .i64 0)), some (56, true)⟩,
    ⟨(some 59), .load (some 2) (.t 58), some (56, true)⟩,
    ⟨(some 60), .call .view 497 [(.c (.int .i64 8))], some (56, true)⟩,
    ⟨(some 61), .eqCells false [0, 0] (.t 59) (.t 60), some (56, true)⟩,
    ⟨(some 62), .pick (.t 56) (.t 61) (.c (.bool false)), none⟩,
    ⟨(some 63), .mv (.t 62), none⟩,
    ⟨(some 64), .mv (.t 1), some (63, true)⟩,
    ⟨(some 65), .idxA 2 (.t 64) (.c (.int .i64 1)), some (63, true)⟩,
    ⟨(some 66), .load (some 2) (.t 65), some (63, true)⟩,
    ⟨(some 67), .call .view 497 [(.c (.int .i64 5))], some (63, true)⟩,
    ⟨(some 68), .eqCells false [0, 0] (.t 66) (.t 67), some (63, true)⟩,
    ⟨(some 69), .pick (.t 63) (.t 68) (.c (.bool false)), none⟩,
    ⟨(some 70), .mv (.t 69), none⟩,
    ⟨(some 71), .mv (.t 6), some (70, true)⟩,
    ⟨(some 72), .bin .eql (.t 71) (.c (.int .i64 4)), some (70, true)⟩,
    ⟨(some 73), .pick (.t 70) (.t 72) (.c (.bool false)), none⟩,
    ⟨(some 74), .mv (.t 73), none⟩,
    ⟨(some 75), .mv (.t 5), some (74, true)⟩,
    ⟨(some 76), .len (.t 75), some (74, true)⟩,
    ⟨(some 77), .bin .eql (.t 76) (.c (.int .i64 3)), some (74, true)⟩,
    ⟨(some 78), .pick (.t 74) (.t 77) (.c (.bool false)), none⟩,
    ⟨(some 79), .mv (.t 78), none⟩,
    ⟨(some 80), .mv (.t 5), some (79, true)⟩,
    ⟨(some 81), .idxA 2 (.t 80) (.c (.int .i64 0)), some (79, true)⟩,
    ⟨(some 82), .load (some 2) (.t 81), some (79, true)⟩,
    ⟨(some 83), .call .view 497 [(.c (.int .i64 8))], some (79, true)⟩,
    ⟨(some 84), .eqCells false [0, 0] (.t 82) (.t 83), some (79, true)⟩,
    ⟨(some 85), .pick (.t 79) (.t 84) (.c (.bool false)), none⟩,
    ⟨(some 86), .mv (.t 85), none⟩,
    ⟨(some 87), .mv (.t 5), some (86, true)⟩,
    ⟨(some 88), .idxA 2 (.t 87) (.c (.int .i64 1)), some (86, true)⟩,
    ⟨(some 89), .load (some 2) (.t 88), some (86, true)⟩,
    ⟨(some 90), .build [(.int .u8 0), (.int .i64 0)] [], some (86, true)⟩,
    ⟨(some 91), .eqCells false [0, 0] (.t 89) (.t 90), some (86, true)⟩,
    ⟨(some 92), .pick (.t 86) (.t 91) (.c (.bool false)), none⟩,
    ⟨(some 93), .mv (.t 92), none⟩,
    ⟨(some 94), .mv (.t 5), some (93, true)⟩,
    ⟨(some 95), .idxA 2 (.t 94) (.c (.int .i64 2)), some (93, true)⟩,
    ⟨(some 96), .load (some 2) (.t 95), some (93, true)⟩,
    ⟨(some 97), .call .view 497 [(.c (.int .i64 7))], some (93, true)⟩,
    ⟨(some 98), .eqCells false [0, 0] (.t 96) (.t 97), some (93, true)⟩,
    ⟨(some 99), .pick (.t 93) (.t 98) (.c (.bool false)), none⟩,
    ⟨(some 0), .mv (.t 99), none⟩])
  .ret)))))⟩

def x379L1 : XCode :=
  (.seq (.seq (.region [0, 3, 4, 12] [⟨(some 9), .mv (.t 4), none⟩,
    ⟨(some 10), .mv (.t 0), none⟩,
    ⟨(some 11), .len (.t 10), none⟩,
    ⟨(some 12), .bin .lss (.t 9) (.t 11), none⟩])
  (.cond (.t 12)
    .skip
    (.exit 0)))
  (.seq (.block 1 (.region [0, 3, 4] [⟨(some 15), .mv (.t 3), none⟩,
    ⟨(some 16), .mv (.t 0), none⟩,
    ⟨(some 17), .mv (.t 4), none⟩,
    ⟨(some 18), .idxA 2 (.t 16) (.t 17), none⟩,
    ⟨(some 19), .load (some 2) (.t 18), none⟩,
    ⟨(some 20), .buildSlice 2 [(.int .u8 0), (.int .i64 0)] 1 [(0, 2, (.t 19))], none⟩,
    ⟨(some 21), .append 2 16 (.t 15) (.t 20), none⟩,
    ⟨(some 3), .mv (.t 21), none⟩]))
  (.region [0, 3, 4] [⟨(some 13), .mv (.t 4), none⟩,
    ⟨(some 14), .bin .add (.t 13) (.c (.int .i64 1)), none⟩,
    ⟨(some 4), .mv (.t 14), none⟩])))
/-- gearbox/gearboxlaw01.TwinVals · 1 parameters, 0 captured -/
def x379 : XFun := ⟨[.tmp 2],
  (.seq (.region [0] [⟨(some 2), .mv (.c (.slice none 0 0)), none⟩])
  (.seq (.region [0, 3] [⟨(some 5), .mv (.t 0), none⟩,
    ⟨(some 6), .len (.t 5), none⟩,
    ⟨(some 7), .bin .add (.t 6) (.c (.int .i64 1)), none⟩,
    ⟨(some 8), .makeSlice 2 16 [(.int .u8 0), (.int .i64 0)] (.c (.int .i64 0)) (.t 7), none⟩,
    ⟨(some 3), .mv (.t 8), none⟩])
  (.seq (.seq (.region [0, 3, 4] [⟨(some 4), .mv (.c (.int .i64 0)), none⟩])
  (.block 0 (.loop [0, 3, 4] x379L1)))
  (.seq (.region [2] [⟨(some 22), .mv (.t 3), none⟩,
    ⟨(some 23), .build [(.int .u8 0), (.int .i64 0)] [(1, 1, (.c (.int .i64 7777)))], none⟩,
    ⟨(some 24), .buildSlice 2 [(.int .u8 0), (.int .i64 0)] 1 [(0, 2, (.t 23))], none⟩,
    ⟨(some 25), .append 2 16 (.t 22) (.t 24), none⟩,
    ⟨(some 26), .mv (.t 0), none⟩,
    ⟨(some 27), .len (.t 26), none⟩,
    ⟨(some 28), .slice 2 (.t 25) none (some (.t 27)), none⟩,
    ⟨(some 2), .mv (.t 28), none⟩])
  .ret))))⟩

def x288L1 : XCode :=
  (.seq (.region [1, 6, 14, 15, 16, 17] [⟨(some 17), .bin .lss (.t 16) (.t 15), none⟩])
  (.seq (.cond (.t 17)
    .skip
    (.exit 0))
  (.seq (.block 1 (.seq (.region [1, 6, 7, 8, 14, 15, 16] [⟨(some 18), .mv (.t 16), none⟩,
    ⟨(some 19), .idxA 3 (.t 14) (.t 16), none⟩,
    ⟨(some 20), .load (some 3) (.t 19), none⟩,
    ⟨(some 8), .alloc [(.int .i64 0), (.int .u8 0), (.int .i64 0)], none⟩,
    ⟨(some 7), .mv (.t 18), none⟩,
    ⟨none, .store 3 (.t 8) (.t 20), none⟩])
  (.seq (.region [1, 6, 14, 15, 16, 27] [⟨(some 21), .load (some 3) (.t 8), none⟩,
    ⟨(some 22), .mv (.t 1), none⟩,
    ⟨(some 23), .mv (.t 6), none⟩,
    ⟨(some 24), .mv (.t 7), none⟩,
    ⟨(some 25), .idxA 2 (.t 23) (.t 24), none⟩,
    ⟨(some 26), .call .share 289 [(.t 21), (.t 22), (.t 25)], none⟩,
    ⟨(some 27), .un .not (.t 26), none⟩])
  (.cond (.t 27)
    (.seq (.region [4, 5] [⟨(some 4), .mv (.c (.slice none 0 0)), none⟩,
      ⟨(some 5), .mv (.c (.int .i64 1)), none⟩])
    .ret)
    .skip))))
  (.region [1, 6, 14, 15, 16] [⟨(some 28), .bin .add (.t 16) (.c (.int .i64 1)), none⟩,
    ⟨(some 16), .mv (.t 28), none⟩]))))
/-- gearbox/deopt.Frame · 2 parameters, 0 captured -/
def x288 : XFun := ⟨[.tmp 4, .tmp 5],
  (.seq (.region [1, 2] [⟨(some 2), .box 2 (.t 0), none⟩,
    ⟨(some 4), .mv (.c (.slice none 0 0)), none⟩,
    ⟨(some 5), .mv (.c (.int .i64 0)), none⟩])
  (.seq (.region [1, 2, 6] [⟨(some 9), .fieldA 1 (.t 2), none⟩,
    ⟨(some 10), .load none (.t 9), none⟩,
    ⟨(some 11), .len (.t 10), none⟩,
    ⟨(some 12), .makeSlice 2 16 [(.int .u8 0), (.int .i64 0)] (.t 11) (.t 11), none⟩,
    ⟨(some 6), .mv (.t 12), none⟩])
  (.seq (.seq (.region [1, 6, 14, 15, 16] [⟨(some 13), .fieldA 1 (.t 2), none⟩,
    ⟨(some 14), .load none (.t 13), none⟩,
    ⟨(some 15), .len (.t 14), none⟩,
    ⟨(some 16), .mv (.c (.int .i64 0)), none⟩])
  (.block 0 (.loop [1, 6, 14, 15, 16] x288L1)))
  (.seq (.region [4, 5] [⟨(some 29), .mv (.t 6), none⟩,
    ⟨(some 4), .mv (.t 29), none⟩,
    ⟨(some 5), .mv (.c (.int .i64 0)), none⟩])
  .ret))))⟩

def x564L1 : XCode :=
  (.seq (.seq (.region [1, 2, 6, 7, 13] [⟨(some 9), .mv (.t 7), none⟩,
    ⟨(some 10), .fieldA 1 (.t 2), none⟩,
    ⟨(some 11), .load none (.t 10), none⟩,
    ⟨(some 12), .len (.t 11), none⟩,
    ⟨(some 13), .bin .lss (.t 9) (.t 12), none⟩])
  (.cond (.t 13)
    .skip
    (.exit 0)))
  (.seq (.block 1 (.seq (.region [1, 2, 6, 7, 8] [⟨(some 16), .fieldA 1 (.t 2), none⟩,
    ⟨(some 17), .load none (.t 16), none⟩,
    ⟨(some 18), .mv (.t 7), none⟩,
    ⟨(some 19), .idxA 3 (.t 17) (.t 18), none⟩,
    ⟨(some 20), .load (some 3) (.t 19), none⟩,
    ⟨(some 8), .alloc [(.int .i64 0), (.int .u8 0), (.int .i64 0)], none⟩,
    ⟨none, .store 3 (.t 8) (.t 20), none⟩])
  (.block 2 (.seq (.region [1, 2, 6, 7, 8, 21] [⟨(some 22), .fieldA 0 (.t 8), none⟩,
    ⟨(some 23), .load none (.t 22), none⟩,
    ⟨(some 24), .mv (.t 1), none⟩,
    ⟨(some 25), .len (.t 24), none⟩,
    ⟨(some 26), .bin .geq (.t 23) (.t 25), none⟩,
    ⟨(some 21), .mv (.t 26), none⟩])
  (.cond (.t 21)
    (.seq (.region [4, 5] [⟨(some 4), .mv (.c (.slice none 0 0)), none⟩,
      ⟨(some 5), .mv (.c (.int .i64 1)), none⟩])
    .ret)
    (.seq (.region [1, 2, 6, 7, 8, 27] [⟨(some 28), .fieldA 0 (.t 8), none⟩,
      ⟨(some 29), .load none (.t 28), none⟩,
      ⟨(some 30), .bin .geq (.t 29) (.c (.int .i64 0)), none⟩,
      ⟨(some 27), .mv (.t 30), none⟩])
    (.cond (.t 27)
      (.region [1, 2, 6, 7] [⟨(some 31), .mv (.t 6), none⟩,
        ⟨(some 32), .mv (.t 1), none⟩,
        ⟨(some 33), .fieldA 0 (.t 8), none⟩,
        ⟨(some 34), .load none (.t 33), none⟩,
        ⟨(some 35), .idxA 2 (.t 32) (.t 34), none⟩,
        ⟨(some 36), .load (some 2) (.t 35), none⟩,
        ⟨(some 37), .buildSlice 2 [(.int .u8 0), (.int .i64 0)] 1 [(0, 2, (.t 36))], none⟩,
        ⟨(some 38), .append 2 16 (.t 31) (.t 37), none⟩,
        ⟨(some 6), .mv (.t 38), none⟩])
      (.seq (.region [1, 2, 6, 7, 8, 39] [⟨(some 40), .fieldA 1 (.t 8), none⟩,
        ⟨(some 41), .load none (.t 40), none⟩,
        ⟨(some 42), .bin .eql (.t 41) (.c (.int .u8 2)), none⟩,
        ⟨(some 43), .mv (.t 42), none⟩,
        ⟨(some 44), .fieldA 2 (.t 8), some (43, false)⟩,
        ⟨(some 45), .load none (.t 44), some (43, false)⟩,
        ⟨(some 46), .bin .eql (.t 45) (.c (.int .i64 0)), some (43, false)⟩,
        ⟨(some 47), .mv (.t 46), some (43, false)⟩,
        ⟨(some 48), .fieldA 1 (.t 8), some (47, true)⟩,
        ⟨(some 49), .load none (.t 48), some (47, true)⟩,
        ⟨(some 50), .bin .eql (.t 49) (.c (.int .u8 0)), some (47, true)⟩,
        ⟨(some 51), .mv (.t 50), some (47, true)⟩,
        ⟨(some 52), .fieldA 1 (.t 8), some (51, false)⟩,
        ⟨(some 53), .load none (.t 52), some (51, false)⟩,
        ⟨(some 54), .bin .eql (.t 53) (.c (.int .u8 1)), some (51, false)⟩,
        ⟨(some 55), .pick (.t 51) (.c (.bool true)) (.t 54), some (47, true)⟩,
        ⟨(some 56), .pick (.t 47) (.t 55) (.c (.bool false)), some (43, false)⟩,
        ⟨(some 57), .pick (.t 43) (.c (.bool true)) (.t 56), none⟩,
        ⟨(some 58), .mv (.t 57), none⟩,
        ⟨(some 59), .fieldA 2 (.t 8), some (58, false)⟩,
        ⟨(some 60), .load none (.t 59), some (58, false)⟩,
        ⟨(some 61), .bin .eql (.t 60) (.c (.int .i64 1)), some (58, false)⟩,
        ⟨(some 62), .mv (.t 61), some (58, false)⟩,
        ⟨(some 63), .fieldA 1 (.t 8), some (62, true)⟩,
        ⟨(some 64), .load none (.t 63), some (62, true)⟩,
        ⟨(some 65), .bin .eql (.t 64) (.c (.int .u8 1)), some (62, true)⟩,
        ⟨(some 66), .pick (.t 62) (.t 65) (.c (.bool false)), some (58, false)⟩,
        ⟨(some 67), .pick (.t 58) (.c (.bool true)) (.t 66), none⟩,
        ⟨(some 39), .mv (.t 67), none⟩])
      (.cond (.t 39)
        (.region [1, 2, 6, 7] [⟨(some 68), .mv (.t 6), none⟩,
          ⟨(some 69), .fieldA 1 (.t 8), none⟩,
          ⟨(some 70), .load none (.t 69), none⟩,
          ⟨(some 71), .fieldA 2 (.t 8), none⟩,
          ⟨(some 72), .load none (.t 71), none⟩,
          ⟨(some 73), .build [(.int .u8 0), (.int .i64 0)] [(0, 1, (.t 70)), (1, 1, (.t 72))], none⟩,
          ⟨(some 74), .buildSlice 2 [(.int .u8 0), (.int .i64 0)] 1 [(0, 2, (.t 73))], none⟩,
          ⟨(some 75), .append 2 16 (.t 68) (.t 74), none⟩,
          ⟨(some 6), .mv (.t 75), none⟩])
        (.seq (.region [4, 5] [⟨(some 4), .mv (.c (.slice none 0 0)), none⟩,
          ⟨(some 5), .mv (.c (.int .i64 1)), none⟩])
        .ret))))))))))
  (.region [1, 2, 6, 7] [⟨(some 14), .mv (.t 7), none⟩,
    ⟨(some 15), .bin .add (.t 14) (.c (.int .i64 1)), none⟩,
    ⟨(some 7), .mv (.t 15), none⟩])))
/-- gearbox/gearboxref23.Frame · 2 parameters, 0 captured -/
def x564 : XFun := ⟨[.tmp 4, .tmp 5],
  (.seq (.region [1, 2] [⟨(some 2), .box 2 (.t 0), none⟩,
    ⟨(some 4), .mv (.c (.slice none 0 0)), none⟩,
    ⟨(some 5), .mv (.c (.int .i64 0)), none⟩])
  (.seq (.region [1, 2, 6] [⟨(some 6), .mv (.c (.slice none 0 0)), none⟩])
  (.seq (.seq (.region [1, 2, 6, 7] [⟨(some 7), .mv (.c (.int .i64 0)), none⟩])
  (.block 0 (.loop [1, 2, 6, 7] x564L1)))
  (.seq (.region [4, 5] [⟨(some 76), .mv (.t 6), none⟩,
    ⟨(some 4), .mv (.t 76), none⟩,
    ⟨(some 5), .mv (.c (.int .i64 0)), none⟩])
  .ret))))⟩

def x357L1 : XCode :=
  (.seq (.seq (.region [0, 1, 5, 14] [⟨(some 11), .mv (.t 5), none⟩,
    ⟨(some 12), .mv (.t 0), none⟩,
    ⟨(some 13), .len (.t 12), none⟩,
    ⟨(some 14), .bin .lss (.t 11) (.t 13), none⟩])
  (.cond (.t 14)
    .skip
    (.exit 0)))
  (.seq (.block 1 (.seq (.region [0, 1, 5, 25] [⟨(some 17), .mv (.t 0), none⟩,
    ⟨(some 18), .mv (.t 5), none⟩,
    ⟨(some 19), .idxA 2 (.t 17) (.t 18), none⟩,
    ⟨(some 20), .load (some 2) (.t 19), none⟩,
    ⟨(some 21), .mv (.t 1), none⟩,
    ⟨(some 22), .mv (.t 5), none⟩,
    ⟨(some 23), .idxA 2 (.t 21) (.t 22), none⟩,
    ⟨(some 24), .load (some 2) (.t 23), none⟩,
    ⟨(some 25), .eqCells true [0, 0] (.t 20) (.t 24), none⟩])
  (.cond (.t 25)
    (.seq (.region [4] [⟨(some 4), .mv (.c (.bool false)), none⟩])
    .ret)
    .skip)))
  (.region [0, 1, 5] [⟨(some 15), .mv (.t 5), none⟩,
    ⟨(some 16), .bin .add (.t 15) (.c (.int .i64 1)), none⟩,
    ⟨(some 5), .mv (.t 16), none⟩])))
/-- gearbox/gearboxlaw01.SameVals · 2 parameters, 0 captured -/
def x357 : XFun := ⟨[.tmp 4],
  (.seq (.region [0, 1] [⟨(some 4), .mv (.c (.bool false)), none⟩])
  (.seq (.seq (.region [0, 1, 10] [⟨(some 6), .mv (.t 0), none⟩,
    ⟨(some 7), .len (.t 6), none⟩,
    ⟨(some 8), .mv (.t 1), none⟩,
    ⟨(some 9), .len (.t 8), none⟩,
    ⟨(some 10), .bin .neq (.t 7) (.t 9), none⟩])
  (.cond (.t 10)
    (.seq (.region [4] [⟨(some 4), .mv (.c (.bool false)), none⟩])
    .ret)
    .skip))
  (.seq (.seq (.region [0, 1, 5] [⟨(some 5), .mv (.c (.int .i64 0)), none⟩])
  (.block 0 (.loop [0, 1, 5] x357L1)))
  (.seq (.region [4] [⟨(some 4), .mv (.c (.bool true)), none⟩])
  .ret))))⟩

def x336L1 : XCode :=
  (.seq (.seq (.region [0, 1, 5, 22] [⟨(some 19), .mv (.t 5), none⟩,
    ⟨(some 20), .mv (.t 1), none⟩,
    ⟨(some 21), .len (.t 20), none⟩,
    ⟨(some 22), .bin .lss (.t 19) (.t 21), none⟩])
  (.cond (.t 22)
    .skip
    (.exit 0)))
  (.seq (.block 1 (.seq (.region [0, 1, 5, 33] [⟨(some 25), .mv (.t 0), none⟩,
    ⟨(some 26), .mv (.t 5), none⟩,
    ⟨(some 27), .idxA 2 (.t 25) (.t 26), none⟩,
    ⟨(some 28), .load (some 2) (.t 27), none⟩,
    ⟨(some 29), .mv (.t 1), none⟩,
    ⟨(some 30), .mv (.t 5), none⟩,
    ⟨(some 31), .idxA 2 (.t 29) (.t 30), none⟩,
    ⟨(some 32), .load (some 2) (.t 31), none⟩,
    ⟨(some 33), .eqCells true [0, 0] (.t 28) (.t 32), none⟩])
  (.cond (.t 33)
    (.seq (.region [4] [⟨(some 4), .mv (.c (.bool false)), none⟩])
    .ret)
    .skip)))
  (.region [0, 1, 5] [⟨(some 23), .mv (.t 5), none⟩,
    ⟨(some 24), .bin .add (.t 23) (.c (.int .i64 1)), none⟩,
    ⟨(some 5), .mv (.t 24), none⟩])))
/-- gearbox/gearboxlaw01.LeftVals · 2 parameters, 0 captured -/
def x336 : XFun := ⟨[.tmp 4],
  (.seq (.region [0, 1] [⟨(some 4), .mv (.c (.bool false)), none⟩])
  (.seq (.seq (.region [0, 1, 18] [⟨(some 7), .mv (.t 0), none⟩,
    ⟨(some 8), .len (.t 7), none⟩,
    ⟨(some 9), .mv (.t 1), none⟩,
    ⟨(some 10), .len (.t 9), none⟩,
    ⟨(some 11), .bin .neq (.t 8) (.t 10), none⟩,
    ⟨(some 12), .mv (.t 11), none⟩,
    ⟨(some 13), .mv (.t 0), some (12, false)⟩,
    ⟨(some 14), .cap (.t 13), some (12, false)⟩,
    ⟨(some 15), .mv (.t 1), some (12, false)⟩,
    ⟨(some 16), .len (.t 15), some (12, false)⟩,
    ⟨(some 17), .bin .leq (.t 14) (.t 16), some (12, false)⟩,
    ⟨(some 18), .pick (.t 12) (.c (.bool true)) (.t 17), none⟩])
  (.cond (.t 18)
    (.seq (.region [4] [⟨(some 4), .mv (.c (.bool false)), none⟩])
    .ret)
    .skip))
  (.seq (.seq (.region [0, 1, 5] [⟨(some 5), .mv (.c (.int .i64 0)), none⟩])
  (.block 0 (.loop [0, 1, 5] x336L1)))
  (.seq (.region [6] [⟨(some 34), .mv (.t 0), none⟩,
    ⟨(some 35), .mv (.t 1), none⟩,
    ⟨(some 36), .len (.t 35), none⟩,
    ⟨(some 37), .bin .add (.t 36) (.c (.int .i64 1)), none⟩,
    ⟨(some 38), .slice 2 (.t 34) none (some (.t 37)), none⟩,
    ⟨(some 39), .mv (.t 1), none⟩,
    ⟨(some 40), .len (.t 39), none⟩,
    ⟨(some 41), .idxA 2 (.t 38) (.t 40), none⟩,
    ⟨(some 42), .load (some 2) (.t 41), none⟩,
    ⟨(some 6), .alloc [(.int .u8 0), (.int .i64 0)], none⟩,
    ⟨none, .store 2 (.t 6) (.t 42), none⟩])
  (.seq (.region [4] [⟨(some 43), .fieldA 1 (.t 6), none⟩,
    ⟨(some 44), .load none (.t 43), none⟩,
    ⟨(some 45), .bin .eql (.t 44) (.c (.int .i64 7777)), none⟩,
    ⟨(some 4), .mv (.t 45), none⟩])
  .ret)))))⟩

/-- (*gearbox/gearboxlaw01.Book).Vals · 2 parameters, 0 captured -/
def x14 : XFun := ⟨[],
  (.region [] [⟨(some 4), .mv (.t 0), none⟩,
    ⟨(some 5), .mv (.t 1), none⟩,
    ⟨(some 6), .call .share 64 [(.t 4), (.t 5)], none⟩])⟩

/-- (*gearbox/gearboxlaw01.Book).Apart · 1 parameters, 0 captured -/
def x1 : XFun := ⟨[.tmp 2],
  (.seq (.region [0] [⟨(some 2), .mv (.c (.bool false)), none⟩])
  (.seq (.region [0] [⟨(some 3), .mv (.t 0), none⟩,
    ⟨(some 4), .call .share 25 [(.t 3)], none⟩])
  (.seq (.region [0] [⟨(some 5), .mv (.t 0), none⟩,
    ⟨(some 6), .call .share 29 [(.t 5)], none⟩])
  (.seq (.region [0] [⟨(some 7), .mv (.t 0), none⟩,
    ⟨(some 8), .call .share 33 [(.t 7)], none⟩])
  (.seq (.region [0] [⟨(some 9), .mv (.t 0), none⟩,
    ⟨(some 10), .call .share 34 [(.t 9)], none⟩])
  (.seq (.region [0] [⟨(some 11), .mv (.t 0), none⟩,
    ⟨(some 12), .call .share 28 [(.t 11)], none⟩])
  (.seq (.region [0] [⟨(some 13), .mv (.t 0), none⟩,
    ⟨(some 14), .call .share 24 [(.t 13)], none⟩])
  (.seq (.region [0] [⟨(some 15), .mv (.t 0), none⟩,
    ⟨(some 16), .call .share 18 [(.t 15)], none⟩])
  (.seq (.region [0] [⟨(some 17), .mv (.t 0), none⟩,
    ⟨(some 18), .call .share 17 [(.t 17)], none⟩])
  (.seq (.region [0] [⟨(some 19), .mv (.t 0), none⟩,
    ⟨(some 20), .call .share 23 [(.t 19)], none⟩])
  (.seq (.region [0] [⟨(some 21), .mv (.t 0), none⟩,
    ⟨(some 22), .call .share 22 [(.t 21)], none⟩])
  (.seq (.region [0] [⟨(some 23), .mv (.t 0), none⟩,
    ⟨(some 24), .call .share 21 [(.t 23)], none⟩])
  (.seq (.region [0] [⟨(some 25), .mv (.t 0), none⟩,
    ⟨(some 26), .call .share 32 [(.t 25)], none⟩])
  (.seq (.region [0] [⟨(some 27), .mv (.t 0), none⟩,
    ⟨(some 28), .call .share 35 [(.t 27)], none⟩])
  (.seq (.region [0] [⟨(some 29), .mv (.t 0), none⟩,
    ⟨(some 30), .call .share 30 [(.t 29)], none⟩])
  (.seq (.region [0] [⟨(some 31), .mv (.t 0), none⟩,
    ⟨(some 32), .call .share 26 [(.t 31)], none⟩])
  (.seq (.region [0] [⟨(some 33), .mv (.t 0), none⟩,
    ⟨(some 34), .call .share 20 [(.t 33)], none⟩])
  (.seq (.region [0] [⟨(some 35), .mv (.t 0), none⟩,
    ⟨(some 36), .call .share 19 [(.t 35)], none⟩])
  (.seq (.region [0] [⟨(some 37), .mv (.t 0), none⟩,
    ⟨(some 38), .call .share 27 [(.t 37)], none⟩])
  (.seq (.region [0] [⟨(some 39), .mv (.t 0), none⟩,
    ⟨(some 40), .call .share 16 [(.t 39)], none⟩])
  (.seq (.region [0] [⟨(some 41), .mv (.t 0), none⟩,
    ⟨(some 42), .call .share 31 [(.t 41)], none⟩])
  (.seq (.region [0] [⟨(some 43), .mv (.t 0), none⟩,
    ⟨(some 44), .call .share 45 [(.t 43)], none⟩])
  (.seq (.region [0] [⟨(some 45), .mv (.t 0), none⟩,
    ⟨(some 46), .call .share 49 [(.t 45)], none⟩])
  (.seq (.region [0] [⟨(some 47), .mv (.t 0), none⟩,
    ⟨(some 48), .call .share 53 [(.t 47)], none⟩])
  (.seq (.region [0] [⟨(some 49), .mv (.t 0), none⟩,
    ⟨(some 50), .call .share 54 [(.t 49)], none⟩])
  (.seq (.region [0] [⟨(some 51), .mv (.t 0), none⟩,
    ⟨(some 52), .call .share 48 [(.t 51)], none⟩])
  (.seq (.region [0] [⟨(some 53), .mv (.t 0), none⟩,
    ⟨(some 54), .call .share 44 [(.t 53)], none⟩])
  (.seq (.region [0] [⟨(some 55), .mv (.t 0), none⟩,
    ⟨(some 56), .call .share 38 [(.t 55)], none⟩])
  (.seq (.region [0] [⟨(some 57), .mv (.t 0), none⟩,
    ⟨(some 58), .call .share 37 [(.t 57)], none⟩])
  (.seq (.region [0] [⟨(some 59), .mv (.t 0), none⟩,
    ⟨(some 60), .call .share 43 [(.t 59)], none⟩])
  (.seq (.region [0] [⟨(some 61), .mv (.t 0), none⟩,
    ⟨(some 62), .call .share 42 [(.t 61)], none⟩])
  (.seq (.region [0] [⟨(some 63), .mv (.t 0), none⟩,
    ⟨(some 64), .call .share 41 [(.t 63)], none⟩])
  (.seq (.region [0] [⟨(some 65), .mv (.t 0), none⟩,
    ⟨(some 66), .call .share 52 [(.t 65)], none⟩])
  (.seq (.region [0] [⟨(some 67), .mv (.t 0), none⟩,
    ⟨(some 68), .call .share 55 [(.t 67)], none⟩])
  (.seq (.region [0] [⟨(some 69), .mv (.t 0), none⟩,
    ⟨(some 70), .call .share 50 [(.t 69)], none⟩])
  (.seq (.region [0] [⟨(some 71), .mv (.t 0), none⟩,
    ⟨(some 72), .call .share 46 [(.t 71)], none⟩])
  (.seq (.region [0] [⟨(some 73), .mv (.t 0), none⟩,
    ⟨(some 74), .call .share 40 [(.t 73)], none⟩])
  (.seq (.region [0] [⟨(some 75), .mv (.t 0), none⟩,
    ⟨(some 76), .call .share 39 [(.t 75)], none⟩])
  (.seq (.region [0] [⟨(some 77), .mv (.t 0), none⟩,
    ⟨(some 78), .call .share 47 [(.t 77)], none⟩])
  (.seq (.region [0] [⟨(some 79), .mv (.t 0), none⟩,
    ⟨(some 80), .call .share 36 [(.t 79)], none⟩])
  (.seq (.region [0] [⟨(some 81), .mv (.t 0), none⟩,
    ⟨(some 82), .call .share 51 [(.t 81)], none⟩])
  (.seq (.region [2] [⟨(some 83), .mv (.t 0), none⟩,
    ⟨(some 84), .call .share 75 [(.t 83)], none⟩,
    ⟨(some 85), .mv (.t 84), none⟩,
    ⟨(some 86), .mv (.t 0), some (85, true)⟩,
    ⟨(some 87), .call .share 79 [(.t 86)], some (85, true)⟩,
    ⟨(some 88), .pick (.t 85) (.t 87) (.c (.bool false)), none⟩,
    ⟨(some 89), .mv (.t 88), none⟩,
    ⟨(some 90), .mv (.t 0), some (89, true)⟩,
    ⟨(some 91), .call .share 83 [(.t 90)], some (89, true)⟩,
    ⟨(some 92), .pick (.t 89) (.t 91) (.c (.bool false)), none⟩,
    ⟨(some 93), .mv (.t 92), none⟩,
    ⟨(some 94), .mv (.t 0), some (93, true)⟩,
    ⟨(some 95), .call .share 84 [(.t 94)], some (93, true)⟩,
    ⟨(some 96), .pick (.t 93) (.t 95) (.c (.bool false)), none⟩,
    ⟨(some 97), .mv (.t 96), none⟩,
    ⟨(some 98), .mv (.t 0), some (97, true)⟩,
    ⟨(some 99), .call .share 78 [(.t 98)], some (97, true)⟩,
    ⟨(some 100), .pick (.t 97) (.t 99) (.c (.bool false)), none⟩,
    ⟨(some 101), .mv (.t 100), none⟩,
    ⟨(some 102), .mv (.t 0), some (101, true)⟩,
    ⟨(some 103), .call .share 74 [(.t 102)], some (101, true)⟩,
    ⟨(some 104), .pick (.t 101) (.t 103) (.c (.bool false)), none⟩,
    ⟨(some 105), .mv (.t 104), none⟩,
    ⟨(some 106), .mv (.t 0), some (105, true)⟩,
    ⟨(some 107), .call .share 68 [(.t 106)], some (105, true)⟩,
    ⟨(some 108), .pick (.t 105) (.t 107) (.c (.bool false)), none⟩,
    ⟨(some 109), .mv (.t 108), none⟩,
    ⟨(some 110), .mv (.t 0), some (109, true)⟩,
    ⟨(some 111), .call .share 67 [(.t 110)], some (109, true)⟩,
    ⟨(some 112), .pick (.t 109) (.t 111) (.c (.bool false)), none⟩,
    ⟨(some 113), .mv (.t 112), none⟩,
    ⟨(some 114), .mv (.t 0), some (113, true)⟩,
    ⟨(some 115), .call .share 73 [(.t 114)], some (113, true)⟩,
    ⟨(some 116), .pick (.t 113) (.t 115) (.c (.bool false)), none⟩,
    ⟨(some 117), .mv (.t 116), none⟩,
    ⟨(some 118), .mv (.t 0), some (117, true)⟩,
    ⟨(some 119), .call .share 72 [(.t 118)], some (117, true)⟩,
    ⟨(some 120), .pick (.t 117) (.t 119) (.c (.bool false)), none⟩,
    ⟨(some 121), .mv (.t 120), none⟩,
    ⟨(some 122), .mv (.t 0), some (121, true)⟩,
    ⟨(some 123), .call .share 71 [(.t 122)], some (121, true)⟩,
    ⟨(some 124), .pick (.t 121) (.t 123) (.c (.bool false)), none⟩,
    ⟨(some 125), .mv (.t 124), none⟩,
    ⟨(some 126), .mv (.t 0), some (125, true)⟩,
    ⟨(some 127), .call .share 82 [(.t 126)], some (125, true)⟩,
    ⟨(some 128), .pick (.t 125) (.t 127) (.c (.bool false)), none⟩,
    ⟨(some 129), .mv (.t 128), none⟩,
    ⟨(some 130), .mv (.t 0), some (129, true)⟩,
    ⟨(some 131), .call .share 85 [(.t 130)], some (129, true)⟩,
    ⟨(some 132), .pick (.t 129) (.t 131) (.c (.bool false)), none⟩,
    ⟨(some 133), .mv (.t 132), none⟩,
    ⟨(some 134), .mv (.t 0), some (133, true)⟩,
    ⟨(some 135), .call .share 80 [(.t 134)], some (133, true)⟩,
    ⟨(some 136), .pick (.t 133) (.t 135) (.c (.bool false)), none⟩,
    ⟨(some 137), .mv (.t 136), none⟩,
    ⟨(some 138), .mv (.t 0), some (137, true)⟩,
    ⟨(some 139), .call .share 76 [(.t 138)], some (137, true)⟩,
    ⟨(some 140), .pick (.t 137) (.t 139) (.c (.bool false)), none⟩,
    ⟨(some 141), .mv (.t 140), none⟩,
    ⟨(some 142), .mv (.t 0), some (141, true)⟩,
    ⟨(some 143), .call .share 70 [(.t 142)], some (141, true)⟩,
    ⟨(some 144), .pick (.t 141) (.t 143) (.c (.bool false)), none⟩,
    ⟨(some 145), .mv (.t 144), none⟩,
    ⟨(some 146), .mv (.t 0), some (145, true)⟩,
    ⟨(some 147), .call .share 69 [(.t 146)], some (145, true)⟩,
    ⟨(some 148), .pick (.t 145) (.t 147) (.c (.bool false)), none⟩,
    ⟨(some 149), .mv (.t 148), none⟩,
    ⟨(some 150), .mv (.t 0), some (149, true)⟩,
    ⟨(some 151), .call .share 77 [(.t 150)], some (149, true)⟩,
    ⟨(some 152), .pick (.t 149) (.t 151) (.c (.bool false)), none⟩,
    ⟨(some 153), .mv (.t 152), none⟩,
    ⟨(some 154), .mv (.t 0), some (153, true)⟩,
    ⟨(some 155), .call .share 66 [(.t 154)], some (153, true)⟩,
    ⟨(some 156), .pick (.t 153) (.t 155) (.c (.bool false)), none⟩,
    ⟨(some 157), .mv (.t 156), none⟩,
    ⟨(some 158), .mv (.t 0), some (157, true)⟩,
    ⟨(some 159), .call .share 81 [(.t 158)], some (157, true)⟩,
    ⟨(some 160), .pick (.t 157) (.t 159) (.c (.bool false)), none⟩,
    ⟨(some 2), .mv (.t 160), none⟩])
  .ret))))))))))))))))))))))))))))))))))))))))))⟩

/-- gearbox/gearboxlaw01.RegFnSize · 1 parameters, 0 captured -/
def x341 : XFun := ⟨[.tmp 2],
  (.seq (.region [1] [⟨(some 1), .box 4 (.t 0), none⟩,
    ⟨(some 2), .mv (.c (.int .i64 0)), none⟩])
  (.seq (.region [1, 3] [⟨(some 3), .mv (.c (.int .i64 1)), none⟩])
  (.seq (.seq (.region [1, 3, 5] [⟨(some 4), .mv (.t 3), none⟩,
    ⟨(some 5), .bin .leq (.t 4) (.c (.int .i64 1048576)), none⟩])
  (.cond (.t 5)
    (.region [1, 3] [⟨(some 6), .mv (.t 3), none⟩,
      ⟨(some 7), .fieldA 1 (.t 1), none⟩,
      ⟨(some 8), .load none (.t 7), none⟩,
      ⟨(some 9), .call .view 306 [(.t 8)], none⟩,
      ⟨(some 10), .bin .add (.t 6) (.t 9), none⟩,
      ⟨(some 3), .mv (.t 10), none⟩])
    .skip))
  (.seq (.seq (.region [1, 3, 12] [⟨(some 11), .mv (.t 3), none⟩,
    ⟨(some 12), .bin .leq (.t 11) (.c (.int .i64 1048576)), none⟩])
  (.cond (.t 12)
    (.region [1, 3] [⟨(some 13), .mv (.t 3), none⟩,
      ⟨(some 14), .fieldA 2 (.t 1), none⟩,
      ⟨(some 15), .load none (.t 14), none⟩,
      ⟨(some 16), .call .view 343 [(.t 15)], none⟩,
      ⟨(some 17), .bin .add (.t 13) (.t 16), none⟩,
      ⟨(some 3), .mv (.t 17), none⟩])
    .skip))
  (.seq (.seq (.region [1, 3, 19] [⟨(some 18), .mv (.t 3), none⟩,
    ⟨(some 19), .bin .leq (.t 18) (.c (.int .i64 1048576)), none⟩])
  (.cond (.t 19)
    (.region [3] [⟨(some 20), .mv (.t 3), none⟩,
      ⟨(some 21), .fieldA 3 (.t 1), none⟩,
      ⟨(some 22), .load none (.t 21), none⟩,
      ⟨(some 23), .call .view 309 [(.t 22)], none⟩,
      ⟨(some 24), .bin .add (.t 20) (.t 23), none⟩,
      ⟨(some 3), .mv (.t 24), none⟩])
    .skip))
  (.seq (.region [2] [⟨(some 25), .mv (.t 3), none⟩,
    ⟨(some 2), .mv (.t 25), none⟩])
  .ret))))))⟩

def x287L1 : XCode :=
  (.seq (.region [1, 3, 9, 10, 11, 60, 61, 62, 63] [⟨(some 63), .bin .lss (.t 62) (.t 61), none⟩])
  (.seq (.cond (.t 63)
    .skip
    (.exit 0))
  (.seq (.block 1 (.seq (.region [1, 3, 9, 10, 11, 12, 13, 60, 61, 62] [⟨(some 64), .mv (.t 62), none⟩,
    ⟨(some 65), .idxA 1 (.t 60) (.t 62), none⟩,
    ⟨(some 66), .load none (.t 65), none⟩,
    ⟨(some 12), .mv (.t 64), none⟩,
    ⟨(some 13), .mv (.t 66), none⟩])
  (.seq (.seq (.region [1, 3, 9, 10, 11, 12, 13, 60, 61, 62, 81] [⟨(some 67), .mv (.t 13), none⟩,
    ⟨(some 68), .bin .lss (.t 67) (.c (.int .i64 0)), none⟩,
    ⟨(some 69), .mv (.t 68), none⟩,
    ⟨(some 70), .mv (.t 13), some (69, false)⟩,
    ⟨(some 71), .fieldA 0 (.t 3), some (69, false)⟩,
    ⟨(some 72), .load none (.t 71), some (69, false)⟩,
    ⟨(some 73), .bin .geq (.t 70) (.t 72), some (69, false)⟩,
    ⟨(some 74), .pick (.t 69) (.c (.bool true)) (.t 73), none⟩,
    ⟨(some 75), .mv (.t 74), none⟩,
    ⟨(some 76), .mv (.t 10), some (75, false)⟩,
    ⟨(some 77), .mv (.t 12), some (75, false)⟩,
    ⟨(some 78), .slice 1 (.t 76) none (some (.t 77)), some (75, false)⟩,
    ⟨(some 79), .mv (.t 13), some (75, false)⟩,
    ⟨(some 80), .call .view 753 [(.t 78), (.t 79)], some (75, false)⟩,
    ⟨(some 81), .pick (.t 75) (.c (.bool true)) (.t 80), none⟩])
  (.cond (.t 81)
    (.seq (.region [6, 7, 8] [⟨(some 6), .mv (.c (.slice none 0 0)), none⟩,
      ⟨(some 7), .mv (.c (.int .i64 0)), none⟩,
      ⟨(some 8), .mv (.c (.int .i64 1)), none⟩])
    .ret)
    .skip))
  (.region [1, 3, 9, 10, 11, 60, 61, 62] [⟨(some 82), .mv (.t 11), none⟩,
    ⟨(some 83), .mv (.t 13), none⟩,
    ⟨(some 84), .mv (.t 9), none⟩,
    ⟨(some 85), .mv (.t 12), none⟩,
    ⟨(some 86), .idxA 2 (.t 84) (.t 85), none⟩,
    ⟨(some 87), .load (some 2) (.t 86), none⟩,
    ⟨(some 88), .idxA 2 (.t 82) (.t 83), none⟩,
    ⟨none, .store 2 (.t 88) (.t 87), none⟩]))))
  (.region [1, 3, 9, 10, 11, 60, 61, 62] [⟨(some 89), .bin .add (.t 62) (.c (.int .i64 1)), none⟩,
    ⟨(some 62), .mv (.t 89), none⟩]))))
/-- gearbox/deopt.Enter · 3 parameters, 0 captured -/
def x287 : XFun := ⟨[.tmp 6, .tmp 7, .tmp 8],
  (.seq (.region [1, 2, 3] [⟨(some 3), .box 4 (.t 0), none⟩,
    ⟨(some 6), .mv (.c (.slice none 0 0)), none⟩,
    ⟨(some 7), .mv (.c (.int .i64 0)), none⟩,
    ⟨(some 8), .mv (.c (.int .i64 0)), none⟩])
  (.seq (.seq (.region [1, 2, 3, 44] [⟨(some 14), .mv (.t 1), none⟩,
    ⟨(some 15), .bin .lss (.t 14) (.c (.int .i64 0)), none⟩,
    ⟨(some 16), .mv (.t 15), none⟩,
    ⟨(some 17), .mv (.t 1), some (16, false)⟩,
    ⟨(some 18), .fieldA 1 (.t 3), some (16, false)⟩,
    ⟨(some 19), .load none (.t 18), some (16, false)⟩,
    ⟨(some 20), .len (.t 19), some (16, false)⟩,
    ⟨(some 21), .bin .geq (.t 17) (.t 20), some (16, false)⟩,
    ⟨(some 22), .pick (.t 16) (.c (.bool true)) (.t 21), none⟩,
    ⟨(some 23), .mv (.t 22), none⟩,
    ⟨(some 24), .fieldA 0 (.t 3), some (23, false)⟩,
    ⟨(some 25), .load none (.t 24), some (23, false)⟩,
    ⟨(some 26), .bin .lss (.t 25) (.c (.int .i64 0)), some (23, false)⟩,
    ⟨(some 27), .pick (.t 23) (.c (.bool true)) (.t 26), none⟩,
    ⟨(some 28), .mv (.t 27), none⟩,
    ⟨(some 29), .fieldA 0 (.t 3), some (28, false)⟩,
    ⟨(some 30), .load none (.t 29), some (28, false)⟩,
    ⟨(some 31), .bin .gtr (.t 30) (.c (.int .i64 4096)), some (28, false)⟩,
    ⟨(some 32), .pick (.t 28) (.c (.bool true)) (.t 31), none⟩,
    ⟨(some 33), .mv (.t 32), none⟩,
    ⟨(some 34), .fieldA 1 (.t 3), some (33, false)⟩,
    ⟨(some 35), .load none (.t 34), some (33, false)⟩,
    ⟨(some 36), .mv (.t 1), some (33, false)⟩,
    ⟨(some 37), .idxA 3 (.t 35) (.t 36), some (33, false)⟩,
    ⟨(some 38), .fieldA 2 (.t 37), some (33, false)⟩,
    ⟨(some 39), .load none (.t 38), some (33, false)⟩,
    ⟨(some 40), .len (.t 39), some (33, false)⟩,
    ⟨(some 41), .mv (.t 2), some (33, false)⟩,
    ⟨(some 42), .len (.t 41), some (33, false)⟩,
    ⟨(some 43), .bin .neq (.t 40) (.t 42), some (33, false)⟩,
    ⟨(some 44), .pick (.t 33) (.c (.bool true)) (.t 43), none⟩])
  (.cond (.t 44)
    (.seq (.region [6, 7, 8] [⟨(some 6), .mv (.c (.slice none 0 0)), none⟩,
      ⟨(some 7), .mv (.c (.int .i64 0)), none⟩,
      ⟨(some 8), .mv (.c (.int .i64 1)), none⟩])
    .ret)
    .skip))
  (.seq (.region [1, 2, 3, 9] [⟨(some 45), .mv (.t 2), none⟩,
    ⟨(some 46), .len (.t 45), none⟩,
    ⟨(some 47), .makeSlice 2 16 [(.int .u8 0), (.int .i64 0)] (.t 46) (.t 46), none⟩,
    ⟨(some 9), .mv (.t 47), none⟩])
  (.seq (.region [1, 3, 9] [⟨(some 48), .mv (.t 9), none⟩,
    ⟨(some 49), .mv (.t 2), none⟩,
    ⟨(some 50), .copy 2 (.t 48) (.t 49), none⟩])
  (.seq (.region [1, 3, 9, 10] [⟨(some 51), .fieldA 1 (.t 3), none⟩,
    ⟨(some 52), .load none (.t 51), none⟩,
    ⟨(some 53), .mv (.t 1), none⟩,
    ⟨(some 54), .idxA 3 (.t 52) (.t 53), none⟩,
    ⟨(some 55), .fieldA 2 (.t 54), none⟩,
    ⟨(some 56), .load none (.t 55), none⟩,
    ⟨(some 10), .mv (.t 56), none⟩])
  (.seq (.region [1, 3, 9, 10, 11] [⟨(some 57), .fieldA 0 (.t 3), none⟩,
    ⟨(some 58), .load none (.t 57), none⟩,
    ⟨(some 59), .makeSlice 2 16 [(.int .u8 0), (.int .i64 0)] (.t 58) (.t 58), none⟩,
    ⟨(some 11), .mv (.t 59), none⟩])
  (.seq (.seq (.region [1, 3, 9, 10, 11, 60, 61, 62] [⟨(some 60), .mv (.t 10), none⟩,
    ⟨(some 61), .len (.t 60), none⟩,
    ⟨(some 62), .mv (.c (.int .i64 0)), none⟩])
  (.block 0 (.loop [1, 3, 9, 10, 11, 60, 61, 62] x287L1)))
  (.seq (.region [6, 7, 8] [⟨(some 90), .mv (.t 11), none⟩,
    ⟨(some 91), .fieldA 1 (.t 3), none⟩,
    ⟨(some 92), .load none (.t 91), none⟩,
    ⟨(some 93), .mv (.t 1), none⟩,
    ⟨(some 94), .idxA 3 (.t 92) (.t 93), none⟩,
    ⟨(some 95), .fieldA 1 (.t 94), none⟩,
    ⟨(some 96), .load none (.t 95), none⟩,
    ⟨(some 6), .mv (.t 90), none⟩,
    ⟨(some 7), .mv (.t 96), none⟩,
    ⟨(some 8), .mv (.c (.int .i64 0)), none⟩])
  .ret))))))))⟩

def x563L1 : XCode :=
  (.seq (.seq (.region [1, 2, 3, 9, 10, 11, 12, 75] [⟨(some 73), .mv (.t 12), none⟩,
    ⟨(some 74), .mv (.t 11), none⟩,
    ⟨(some 75), .bin .lss (.t 73) (.t 74), none⟩])
  (.cond (.t 75)
    .skip
    (.exit 2)))
  (.seq (.block 3 (.seq (.region [1, 2, 3, 9, 10, 11, 12, 86] [⟨(some 78), .mv (.t 9), none⟩,
    ⟨(some 79), .mv (.t 12), none⟩,
    ⟨(some 80), .idxA 1 (.t 78) (.t 79), none⟩,
    ⟨(some 81), .load none (.t 80), none⟩,
    ⟨(some 82), .mv (.t 9), none⟩,
    ⟨(some 83), .mv (.t 11), none⟩,
    ⟨(some 84), .idxA 1 (.t 82) (.t 83), none⟩,
    ⟨(some 85), .load none (.t 84), none⟩,
    ⟨(some 86), .bin .eql (.t 81) (.t 85), none⟩])
  (.cond (.t 86)
    (.seq (.region [6, 7, 8] [⟨(some 6), .mv (.c (.slice none 0 0)), none⟩,
      ⟨(some 7), .mv (.c (.int .i64 0)), none⟩,
      ⟨(some 8), .mv (.c (.int .i64 1)), none⟩])
    .ret)
    .skip)))
  (.region [1, 2, 3, 9, 10, 11, 12] [⟨(some 76), .mv (.t 12), none⟩,
    ⟨(some 77), .bin .add (.t 76) (.c (.int .i64 1)), none⟩,
    ⟨(some 12), .mv (.t 77), none⟩])))
def x563L2 : XCode :=
  (.seq (.seq (.region [1, 2, 3, 9, 10, 11, 56] [⟨(some 53), .mv (.t 11), none⟩,
    ⟨(some 54), .mv (.t 9), none⟩,
    ⟨(some 55), .len (.t 54), none⟩,
    ⟨(some 56), .bin .lss (.t 53) (.t 55), none⟩])
  (.cond (.t 56)
    .skip
    (.exit 0)))
  (.seq (.block 1 (.seq (.seq (.region [1, 2, 3, 9, 10, 11, 72] [⟨(some 59), .mv (.t 9), none⟩,
    ⟨(some 60), .mv (.t 11), none⟩,
    ⟨(some 61), .idxA 1 (.t 59) (.t 60), none⟩,
    ⟨(some 62), .load none (.t 61), none⟩,
    ⟨(some 63), .bin .lss (.t 62) (.c (.int .i64 0)), none⟩,
    ⟨(some 64), .mv (.t 63), none⟩,
    ⟨(some 65), .mv (.t 9), some (64, false)⟩,
    ⟨(some 66), .mv (.t 11), some (64, false)⟩,
    ⟨(some 67), .idxA 1 (.t 65) (.t 66), some (64, false)⟩,
    ⟨(some 68), .load none (.t 67), some (64, false)⟩,
    ⟨(some 69), .fieldA 0 (.t 3), some (64, false)⟩,
    ⟨(some 70), .load none (.t 69), some (64, false)⟩,
    ⟨(some 71), .bin .geq (.t 68) (.t 70), some (64, false)⟩,
    ⟨(some 72), .pick (.t 64) (.c (.bool true)) (.t 71), none⟩])
  (.cond (.t 72)
    (.seq (.region [6, 7, 8] [⟨(some 6), .mv (.c (.slice none 0 0)), none⟩,
      ⟨(some 7), .mv (.c (.int .i64 0)), none⟩,
      ⟨(some 8), .mv (.c (.int .i64 1)), none⟩])
    .ret)
    .skip))
  (.seq (.seq (.region [1, 2, 3, 9, 10, 11, 12] [⟨(some 12), .mv (.c (.int .i64 0)), none⟩])
  (.block 2 (.loop [1, 2, 3, 9, 10, 11, 12] x563L1)))
  (.region [1, 2, 3, 9, 10, 11] [⟨(some 87), .mv (.t 10), none⟩,
    ⟨(some 88), .mv (.t 9), none⟩,
    ⟨(some 89), .mv (.t 11), none⟩,
    ⟨(some 90), .idxA 1 (.t 88) (.t 89), none⟩,
    ⟨(some 91), .load none (.t 90), none⟩,
    ⟨(some 92), .mv (.t 2), none⟩,
    ⟨(some 93), .mv (.t 11), none⟩,
    ⟨(some 94), .idxA 2 (.t 92) (.t 93), none⟩,
    ⟨(some 95), .load (some 2) (.t 94), none⟩,
    ⟨(some 96), .idxA 2 (.t 87) (.t 91), none⟩,
    ⟨none, .store 2 (.t 96) (.t 95), none⟩]))))
  (.region [1, 2, 3, 9, 10, 11] [⟨(some 57), .mv (.t 11), none⟩,
    ⟨(some 58), .bin .add (.t 57) (.c (.int .i64 1)), none⟩,
    ⟨(some 11), .mv (.t 58), none⟩])))
/-- gearbox/gearboxref23.Enter · 3 parameters, 0 captured -/
def x563 : XFun := ⟨[.tmp 6, .tmp 7, .tmp 8],
  (.seq (.region [1, 2, 3] [⟨(some 3), .box 4 (.t 0), none⟩,
    ⟨(some 6), .mv (.c (.slice none 0 0)), none⟩,
    ⟨(some 7), .mv (.c (.int .i64 0)), none⟩,
    ⟨(some 8), .mv (.c (.int .i64 0)), none⟩])
  (.seq (.seq (.region [1, 2, 3, 43] [⟨(some 13), .mv (.t 1), none⟩,
    ⟨(some 14), .bin .lss (.t 13) (.c (.int .i64 0)), none⟩,
    ⟨(some 15), .mv (.t 14), none⟩,
    ⟨(some 16), .mv (.t 1), some (15, false)⟩,
    ⟨(some 17), .fieldA 1 (.t 3), some (15, false)⟩,
    ⟨(some 18), .load none (.t 17), some (15, false)⟩,
    ⟨(some 19), .len (.t 18), some (15, false)⟩,
    ⟨(some 20), .bin .geq (.t 16) (.t 19), some (15, false)⟩,
    ⟨(some 21), .pick (.t 15) (.c (.bool true)) (.t 20), none⟩,
    ⟨(some 22), .mv (.t 21), none⟩,
    ⟨(some 23), .fieldA 0 (.t 3), some (22, false)⟩,
    ⟨(some 24), .load none (.t 23), some (22, false)⟩,
    ⟨(some 25), .bin .lss (.t 24) (.c (.int .i64 0)), some (22, false)⟩,
    ⟨(some 26), .pick (.t 22) (.c (.bool true)) (.t 25), none⟩,
    ⟨(some 27), .mv (.t 26), none⟩,
    ⟨(some 28), .fieldA 0 (.t 3), some (27, false)⟩,
    ⟨(some 29), .load none (.t 28), some (27, false)⟩,
    ⟨(some 30), .bin .gtr (.t 29) (.c (.int .i64 4096)), some (27, false)⟩,
    ⟨(some 31), .pick (.t 27) (.c (.bool true)) (.t 30), none⟩,
    ⟨(some 32), .mv (.t 31), none⟩,
    ⟨(some 33), .fieldA 1 (.t 3), some (32, false)⟩,
    ⟨(some 34), .load none (.t 33), some (32, false)⟩,
    ⟨(some 35), .mv (.t 1), some (32, false)⟩,
    ⟨(some 36), .idxA 3 (.t 34) (.t 35), some (32, false)⟩,
    ⟨(some 37), .fieldA 2 (.t 36), some (32, false)⟩,
    ⟨(some 38), .load none (.t 37), some (32, false)⟩,
    ⟨(some 39), .len (.t 38), some (32, false)⟩,
    ⟨(some 40), .mv (.t 2), some (32, false)⟩,
    ⟨(some 41), .len (.t 40), some (32, false)⟩,
    ⟨(some 42), .bin .neq (.t 39) (.t 41), some (32, false)⟩,
    ⟨(some 43), .pick (.t 32) (.c (.bool true)) (.t 42), none⟩])
  (.cond (.t 43)
    (.seq (.region [6, 7, 8] [⟨(some 6), .mv (.c (.slice none 0 0)), none⟩,
      ⟨(some 7), .mv (.c (.int .i64 0)), none⟩,
      ⟨(some 8), .mv (.c (.int .i64 1)), none⟩])
    .ret)
    .skip))
  (.seq (.region [1, 2, 3, 9] [⟨(some 44), .fieldA 1 (.t 3), none⟩,
    ⟨(some 45), .load none (.t 44), none⟩,
    ⟨(some 46), .mv (.t 1), none⟩,
    ⟨(some 47), .idxA 3 (.t 45) (.t 46), none⟩,
    ⟨(some 48), .fieldA 2 (.t 47), none⟩,
    ⟨(some 49), .load none (.t 48), none⟩,
    ⟨(some 9), .mv (.t 49), none⟩])
  (.seq (.region [1, 2, 3, 9, 10] [⟨(some 50), .fieldA 0 (.t 3), none⟩,
    ⟨(some 51), .load none (.t 50), none⟩,
    ⟨(some 52), .makeSlice 2 16 [(.int .u8 0), (.int .i64 0)] (.t 51) (.t 51), none⟩,
    ⟨(some 10), .mv (.t 52), none⟩])
  (.seq (.seq (.region [1, 2, 3, 9, 10, 11] [⟨(some 11), .mv (.c (.int .i64 0)), none⟩])
  (.block 0 (.loop [1, 2, 3, 9, 10, 11] x563L2)))
  (.seq (.region [6, 7, 8] [⟨(some 97), .mv (.t 10), none⟩,
    ⟨(some 98), .fieldA 1 (.t 3), none⟩,
    ⟨(some 99), .load none (.t 98), none⟩,
    ⟨(some 100), .mv (.t 1), none⟩,
    ⟨(some 101), .idxA 3 (.t 99) (.t 100), none⟩,
    ⟨(some 102), .fieldA 1 (.t 101), none⟩,
    ⟨(some 103), .load none (.t 102), none⟩,
    ⟨(some 6), .mv (.t 97), none⟩,
    ⟨(some 7), .mv (.t 103), none⟩,
    ⟨(some 8), .mv (.c (.int .i64 0)), none⟩])
  .ret))))))⟩

/-- gearbox/gearboxlaw23.whole · 1 parameters, 0 captured -/
def x497 : XFun := ⟨[.cell 2 (some 2)],
  (.seq (.region [0, 2] [⟨(some 2), .alloc [(.int .u8 0), (.int .i64 0)], none⟩])
  (.seq (.region [2] [⟨(some 3), .mv (.t 0), none⟩,
    ⟨(some 4), .build [(.int .u8 0), (.int .i64 0)] [(0, 1, (.c (.int .u8 2))), (1, 1, (.t 3))], none⟩,
    ⟨none, .store 2 (.t 2) (.t 4), none⟩])
  .ret))⟩

/-- gearbox/deopt.tell · 3 parameters, 0 captured -/
def x289 : XFun := ⟨[.tmp 6],
  (.seq (.region [1, 2, 3] [⟨(some 3), .box 3 (.t 0), none⟩,
    ⟨(some 6), .mv (.c (.bool false)), none⟩])
  (.seq (.block 0 (.seq (.region [1, 2, 3, 7] [⟨(some 8), .fieldA 0 (.t 3), none⟩,
    ⟨(some 9), .load none (.t 8), none⟩,
    ⟨(some 10), .mv (.t 1), none⟩,
    ⟨(some 11), .len (.t 10), none⟩,
    ⟨(some 12), .bin .geq (.t 9) (.t 11), none⟩,
    ⟨(some 7), .mv (.t 12), none⟩])
  (.cond (.t 7)
    (.seq (.region [6] [⟨(some 6), .mv (.c (.bool false)), none⟩])
    .ret)
    (.seq (.region [1, 2, 3, 13] [⟨(some 14), .fieldA 0 (.t 3), none⟩,
      ⟨(some 15), .load none (.t 14), none⟩,
      ⟨(some 16), .bin .geq (.t 15) (.c (.int .i64 0)), none⟩,
      ⟨(some 13), .mv (.t 16), none⟩])
    (.cond (.t 13)
      (.region [] [⟨(some 17), .mv (.t 2), none⟩,
        ⟨(some 18), .mv (.t 1), none⟩,
        ⟨(some 19), .fieldA 0 (.t 3), none⟩,
        ⟨(some 20), .load none (.t 19), none⟩,
        ⟨(some 21), .idxA 2 (.t 18) (.t 20), none⟩,
        ⟨(some 22), .load (some 2) (.t 21), none⟩,
        ⟨(some 23), .nilCheck (.t 17), none⟩,
        ⟨none, .store 2 (.t 23) (.t 22), none⟩])
      (.seq (.region [2, 3, 24] [⟨(some 25), .fieldA 1 (.t 3), none⟩,
        ⟨(some 26), .load none (.t 25), none⟩,
        ⟨(some 27), .bin .eql (.t 26) (.c (.int .u8 2)), none⟩,
        ⟨(some 28), .mv (.t 27), none⟩,
        ⟨(some 29), .fieldA 1 (.t 3), some (28, false)⟩,
        ⟨(some 30), .load none (.t 29), some (28, false)⟩,
        ⟨(some 31), .bin .eql (.t 30) (.c (.int .u8 0)), some (28, false)⟩,
        ⟨(some 32), .mv (.t 31), some (28, false)⟩,
        ⟨(some 33), .fieldA 2 (.t 3), some (32, true)⟩,
        ⟨(some 34), .load none (.t 33), some (32, true)⟩,
        ⟨(some 35), .bin .eql (.t 34) (.c (.int .i64 0)), some (32, true)⟩,
        ⟨(some 36), .pick (.t 32) (.t 35) (.c (.bool false)), some (28, false)⟩,
        ⟨(some 37), .pick (.t 28) (.c (.bool true)) (.t 36), none⟩,
        ⟨(some 38), .mv (.t 37), none⟩,
        ⟨(some 39), .fieldA 1 (.t 3), some (38, false)⟩,
        ⟨(some 40), .load none (.t 39), some (38, false)⟩,
        ⟨(some 41), .bin .eql (.t 40) (.c (.int .u8 1)), some (38, false)⟩,
        ⟨(some 42), .mv (.t 41), some (38, false)⟩,
        ⟨(some 43), .fieldA 2 (.t 3), some (42, true)⟩,
        ⟨(some 44), .load none (.t 43), some (42, true)⟩,
        ⟨(some 45), .bin .eql (.t 44) (.c (.int .i64 0)), some (42, true)⟩,
        ⟨(some 46), .mv (.t 45), some (42, true)⟩,
        ⟨(some 47), .fieldA 2 (.t 3), some (46, false)⟩,
        ⟨(some 48), .load none (.t 47), some (46, false)⟩,
        ⟨(some 49), .bin .eql (.t 48) (.c (.int .i64 1)), some (46, false)⟩,
        ⟨(some 50), .pick (.t 46) (.c (.bool true)) (.t 49), some (42, true)⟩,
        ⟨(some 51), .pick (.t 42) (.t 50) (.c (.bool false)), some (38, false)⟩,
        ⟨(some 52), .pick (.t 38) (.c (.bool true)) (.t 51), none⟩,
        ⟨(some 24), .mv (.t 52), none⟩])
      (.cond (.t 24)
        (.region [] [⟨(some 53), .mv (.t 2), none⟩,
          ⟨(some 54), .fieldA 1 (.t 3), none⟩,
          ⟨(some 55), .load none (.t 54), none⟩,
          ⟨(some 56), .fieldA 2 (.t 3), none⟩,
          ⟨(some 57), .load none (.t 56), none⟩,
          ⟨(some 58), .build [(.int .u8 0), (.int .i64 0)] [(0, 1, (.t 55)), (1, 1, (.t 57))], none⟩,
          ⟨(some 59), .nilCheck (.t 53), none⟩,
          ⟨none, .store 2 (.t 59) (.t 58), none⟩])
        (.seq (.region [6] [⟨(some 6), .mv (.c (.bool false)), none⟩])
        .ret))))))))
  (.seq (.region [6] [⟨(some 6), .mv (.c (.bool true)), none⟩])
  .ret)))⟩

/-- (*gearbox/gearboxlaw01.Book).keepVal · 2 parameters, 0 captured -/
def x64 : XFun := ⟨[],
  (.seq (.region [0, 1] [⟨(some 4), .mv (.t 0), none⟩,
    ⟨(some 5), .nilCheck (.t 4), none⟩,
    ⟨(some 6), .fieldA 0 (.t 5), none⟩,
    ⟨(some 7), .load none (.t 6), none⟩,
    ⟨(some 8), .bin .add (.t 7) (.c (.int .i64 1)), none⟩,
    ⟨(some 9), .nilCheck (.t 4), none⟩,
    ⟨(some 10), .fieldA 0 (.t 9), none⟩,
    ⟨none, .store 1 (.t 10) (.t 8), none⟩])
  (.region [] [⟨(some 11), .mv (.t 0), none⟩,
    ⟨(some 12), .mv (.t 0), none⟩,
    ⟨(some 13), .nilCheck (.t 12), none⟩,
    ⟨(some 14), .fieldA 4 (.t 13), none⟩,
    ⟨(some 15), .load none (.t 14), none⟩,
    ⟨(some 16), .mv (.t 1), none⟩,
    ⟨(some 17), .mv (.t 0), none⟩,
    ⟨(some 18), .nilCheck (.t 17), none⟩,
    ⟨(some 19), .fieldA 0 (.t 18), none⟩,
    ⟨(some 20), .load none (.t 19), none⟩,
    ⟨(some 21), .build [(.slice none 0 0), (.slice none 0 0), (.int .i64 0)] [(0, 1, (.t 16)), (2, 1, (.t 20))], none⟩,
    ⟨(some 22), .buildSlice 3 [(.slice none 0 0), (.slice none 0 0), (.int .i64 0)] 1 [(0, 3, (.t 21))], none⟩,
    ⟨(some 23), .append 3 56 (.t 15) (.t 22), none⟩,
    ⟨(some 24), .nilCheck (.t 11), none⟩,
    ⟨(some 25), .fieldA 4 (.t 24), none⟩,
    ⟨none, .store 1 (.t 25) (.t 23), none⟩]))⟩

def x25L1 : XCode :=
  (.seq (.seq (.region [0, 2, 3, 4, 25] [⟨(some 21), .mv (.t 4), none⟩,
    ⟨(some 22), .fieldA 0 (.t 3), none⟩,
    ⟨(some 23), .load none (.t 22), none⟩,
    ⟨(some 24), .len (.t 23), none⟩,
    ⟨(some 25), .bin .lss (.t 21) (.t 24), none⟩])
  (.cond (.t 25)
    .skip
    (.exit 2)))
  (.seq (.block 3 (.region [0, 2, 3, 4] [⟨(some 28), .fieldA 0 (.t 3), none⟩,
    ⟨(some 29), .load none (.t 28), none⟩,
    ⟨(some 30), .mv (.t 4), none⟩,
    ⟨(some 31), .fieldA 2 (.t 3), none⟩,
    ⟨(some 32), .load none (.t 31), none⟩,
    ⟨(some 33), .call .view 411 [(.t 32)], none⟩,
    ⟨(some 34), .idxA 1 (.t 29) (.t 30), none⟩,
    ⟨none, .store 1 (.t 34) (.t 33), none⟩]))
  (.region [0, 2, 3, 4] [⟨(some 26), .mv (.t 4), none⟩,
    ⟨(some 27), .bin .add (.t 26) (.c (.int .i64 1)), none⟩,
    ⟨(some 4), .mv (.t 27), none⟩])))
def x25L2 : XCode :=
  (.seq (.seq (.region [0, 2, 11] [⟨(some 5), .mv (.t 2), none⟩,
    ⟨(some 6), .mv (.t 0), none⟩,
    ⟨(some 7), .nilCheck (.t 6), none⟩,
    ⟨(some 8), .fieldA 1 (.t 7), none⟩,
    ⟨(some 9), .load none (.t 8), none⟩,
    ⟨(some 10), .len (.t 9), none⟩,
    ⟨(some 11), .bin .lss (.t 5) (.t 10), none⟩])
  (.cond (.t 11)
    .skip
    (.exit 0)))
  (.seq (.block 1 (.seq (.region [0, 2, 3] [⟨(some 14), .mv (.t 0), none⟩,
    ⟨(some 15), .nilCheck (.t 14), none⟩,
    ⟨(some 16), .fieldA 1 (.t 15), none⟩,
    ⟨(some 17), .load none (.t 16), none⟩,
    ⟨(some 18), .mv (.t 2), none⟩,
    ⟨(some 19), .idxA 3 (.t 17) (.t 18), none⟩,
    ⟨(some 20), .load (some 3) (.t 19), none⟩,
    ⟨(some 3), .alloc [(.slice none 0 0), (.slice none 0 0), (.int .i64 0)], none⟩,
    ⟨none, .store 3 (.t 3) (.t 20), none⟩])
  (.seq (.region [0, 2, 3, 4] [⟨(some 4), .mv (.c (.int .i64 0)), none⟩])
  (.block 2 (.loop [0, 2, 3, 4] x25L1)))))
  (.region [0, 2] [⟨(some 12), .mv (.t 2), none⟩,
    ⟨(some 13), .bin .add (.t 12) (.c (.int .i64 1)), none⟩,
    ⟨(some 2), .mv (.t 13), none⟩])))
/-- (*gearbox/gearboxlaw01.Book).fillInt · 1 parameters, 0 captured -/
def x25 : XFun := ⟨[],
  (.seq (.region [0, 2] [⟨(some 2), .mv (.c (.int .i64 0)), none⟩])
  (.block 0 (.loop [0, 2] x25L2)))⟩

def x29L1 : XCode :=
  (.seq (.seq (.region [0, 2, 3, 4, 25] [⟨(some 21), .mv (.t 4), none⟩,
    ⟨(some 22), .fieldA 0 (.t 3), none⟩,
    ⟨(some 23), .load none (.t 22), none⟩,
    ⟨(some 24), .len (.t 23), none⟩,
    ⟨(some 25), .bin .lss (.t 21) (.t 24), none⟩])
  (.cond (.t 25)
    .skip
    (.exit 2)))
  (.seq (.block 3 (.region [0, 2, 3, 4] [⟨(some 28), .fieldA 0 (.t 3), none⟩,
    ⟨(some 29), .load none (.t 28), none⟩,
    ⟨(some 30), .mv (.t 4), none⟩,
    ⟨(some 31), .fieldA 2 (.t 3), none⟩,
    ⟨(some 32), .load none (.t 31), none⟩,
    ⟨(some 33), .call .view 415 [(.t 32)], none⟩,
    ⟨(some 34), .idxA 1 (.t 29) (.t 30), none⟩,
    ⟨none, .store 1 (.t 34) (.t 33), none⟩]))
  (.region [0, 2, 3, 4] [⟨(some 26), .mv (.t 4), none⟩,
    ⟨(some 27), .bin .add (.t 26) (.c (.int .i64 1)), none⟩,
    ⟨(some 4), .mv (.t 27), none⟩])))
def x29L2 : XCode :=
  (.seq (.seq (.region [0, 2, 11] [⟨(some 5), .mv (.t 2), none⟩,
    ⟨(some 6), .mv (.t 0), none⟩,
    ⟨(some 7), .nilCheck (.t 6), none⟩,
    ⟨(some 8), .fieldA 2 (.t 7), none⟩,
    ⟨(some 9), .load none (.t 8), none⟩,
    ⟨(some 10), .len (.t 9), none⟩,
    ⟨(some 11), .bin .lss (.t 5) (.t 10), none⟩])
  (.cond (.t 11)
    .skip
    (.exit 0)))
  (.seq (.block 1 (.seq (.region [0, 2, 3] [⟨(some 14), .mv (.t 0), none⟩,
    ⟨(some 15), .nilCheck (.t 14), none⟩,
    ⟨(some 16), .fieldA 2 (.t 15), none⟩,
    ⟨(some 17), .load none (.t 16), none⟩,
    ⟨(some 18), .mv (.t 2), none⟩,
    ⟨(some 19), .idxA 3 (.t 17) (.t 18), none⟩,
    ⟨(some 20), .load (some 3) (.t 19), none⟩,
    ⟨(some 3), .alloc [(.slice none 0 0), (.slice none 0 0), (.int .i64 0)], none⟩,
    ⟨none, .store 3 (.t 3) (.t 20), none⟩])
  (.seq (.region [0, 2, 3, 4] [⟨(some 4), .mv (.c (.int .i64 0)), none⟩])
  (.block 2 (.loop [0, 2, 3, 4] x29L1)))))
  (.region [0, 2] [⟨(some 12), .mv (.t 2), none⟩,
    ⟨(some 13), .bin .add (.t 12) (.c (.int .i64 1)), none⟩,
    ⟨(some 2), .mv (.t 13), none⟩])))
/-- (*gearbox/gearboxlaw01.Book).fillPlace · 1 parameters, 0 captured -/
def x29 : XFun := ⟨[],
  (.seq (.region [0, 2] [⟨(some 2), .mv (.c (.int .i64 0)), none⟩])
  (.block 0 (.loop [0, 2] x29L2)))⟩

def x33L1 : XCode :=
  (.seq (.seq (.region [0, 2, 3, 4, 25] [⟨(some 21), .mv (.t 4), none⟩,
    ⟨(some 22), .fieldA 0 (.t 3), none⟩,
    ⟨(some 23), .load none (.t 22), none⟩,
    ⟨(some 24), .len (.t 23), none⟩,
    ⟨(some 25), .bin .lss (.t 21) (.t 24), none⟩])
  (.cond (.t 25)
    .skip
    (.exit 2)))
  (.seq (.block 3 (.region [0, 2, 3, 4] [⟨(some 28), .fieldA 0 (.t 3), none⟩,
    ⟨(some 29), .load none (.t 28), none⟩,
    ⟨(some 30), .mv (.t 4), none⟩,
    ⟨(some 31), .fieldA 2 (.t 3), none⟩,
    ⟨(some 32), .load none (.t 31), none⟩,
    ⟨(some 33), .call .view 419 [(.t 32)], none⟩,
    ⟨(some 34), .idxA 1 (.t 29) (.t 30), none⟩,
    ⟨none, .store 1 (.t 34) (.t 33), none⟩]))
  (.region [0, 2, 3, 4] [⟨(some 26), .mv (.t 4), none⟩,
    ⟨(some 27), .bin .add (.t 26) (.c (.int .i64 1)), none⟩,
    ⟨(some 4), .mv (.t 27), none⟩])))
def x33L2 : XCode :=
  (.seq (.seq (.region [0, 2, 11] [⟨(some 5), .mv (.t 2), none⟩,
    ⟨(some 6), .mv (.t 0), none⟩,
    ⟨(some 7), .nilCheck (.t 6), none⟩,
    ⟨(some 8), .fieldA 3 (.t 7), none⟩,
    ⟨(some 9), .load none (.t 8), none⟩,
    ⟨(some 10), .len (.t 9), none⟩,
    ⟨(some 11), .bin .lss (.t 5) (.t 10), none⟩])
  (.cond (.t 11)
    .skip
    (.exit 0)))
  (.seq (.block 1 (.seq (.region [0, 2, 3] [⟨(some 14), .mv (.t 0), none⟩,
    ⟨(some 15), .nilCheck (.t 14), none⟩,
    ⟨(some 16), .fieldA 3 (.t 15), none⟩,
    ⟨(some 17), .load none (.t 16), none⟩,
    ⟨(some 18), .mv (.t 2), none⟩,
    ⟨(some 19), .idxA 3 (.t 17) (.t 18), none⟩,
    ⟨(some 20), .load (some 3) (.t 19), none⟩,
    ⟨(some 3), .alloc [(.slice none 0 0), (.slice none 0 0), (.int .i64 0)], none⟩,
    ⟨none, .store 3 (.t 3) (.t 20), none⟩])
  (.seq (.region [0, 2, 3, 4] [⟨(some 4), .mv (.c (.int .i64 0)), none⟩])
  (.block 2 (.loop [0, 2, 3, 4] x33L1)))))
  (.region [0, 2] [⟨(some 12), .mv (.t 2), none⟩,
    ⟨(some 13), .bin .add (.t 12) (.c (.int .i64 1)), none⟩,
    ⟨(some 2), .mv (.t 13), none⟩])))
/-- (*gearbox/gearboxlaw01.Book).fillText · 1 parameters, 0 captured -/
def x33 : XFun := ⟨[],
  (.seq (.region [0, 2] [⟨(some 2), .mv (.c (.int .i64 0)), none⟩])
  (.block 0 (.loop [0, 2] x33L2)))⟩

def x34L1 : XCode :=
  (.seq (.seq (.region [0, 2, 3, 4, 25] [⟨(some 21), .mv (.t 4), none⟩,
    ⟨(some 22), .fieldA 0 (.t 3), none⟩,
    ⟨(some 23), .load none (.t 22), none⟩,
    ⟨(some 24), .len (.t 23), none⟩,
    ⟨(some 25), .bin .lss (.t 21) (.t 24), none⟩])
  (.cond (.t 25)
    .skip
    (.exit 2)))
  (.seq (.block 3 (.region [0, 2, 3, 4] [⟨(some 28), .fieldA 0 (.t 3), none⟩,
    ⟨(some 29), .load none (.t 28), none⟩,
    ⟨(some 30), .mv (.t 4), none⟩,
    ⟨(some 31), .fieldA 2 (.t 3), none⟩,
    ⟨(some 32), .load none (.t 31), none⟩,
    ⟨(some 33), .call .view 420 [(.t 32)], none⟩,
    ⟨(some 34), .idxA 2 (.t 29) (.t 30), none⟩,
    ⟨none, .store 2 (.t 34) (.t 33), none⟩]))
  (.region [0, 2, 3, 4] [⟨(some 26), .mv (.t 4), none⟩,
    ⟨(some 27), .bin .add (.t 26) (.c (.int .i64 1)), none⟩,
    ⟨(some 4), .mv (.t 27), none⟩])))
def x34L2 : XCode :=
  (.seq (.seq (.region [0, 2, 11] [⟨(some 5), .mv (.t 2), none⟩,
    ⟨(some 6), .mv (.t 0), none⟩,
    ⟨(some 7), .nilCheck (.t 6), none⟩,
    ⟨(some 8), .fieldA 4 (.t 7), none⟩,
    ⟨(some 9), .load none (.t 8), none⟩,
    ⟨(some 10), .len (.t 9), none⟩,
    ⟨(some 11), .bin .lss (.t 5) (.t 10), none⟩])
  (.cond (.t 11)
    .skip
    (.exit 0)))
  (.seq (.block 1 (.seq (.region [0, 2, 3] [⟨(some 14), .mv (.t 0), none⟩,
    ⟨(some 15), .nilCheck (.t 14), none⟩,
    ⟨(some 16), .fieldA 4 (.t 15), none⟩,
    ⟨(some 17), .load none (.t 16), none⟩,
    ⟨(some 18), .mv (.t 2), none⟩,
    ⟨(some 19), .idxA 3 (.t 17) (.t 18), none⟩,
    ⟨(some 20), .load (some 3) (.t 19), none⟩,
    ⟨(some 3), .alloc [(.slice none 0 0), (.slice none 0 0), (.int .i64 0)], none⟩,
    ⟨none, .store 3 (.t 3) (.t 20), none⟩])
  (.seq (.region [0, 2, 3, 4] [⟨(some 4), .mv (.c (.int .i64 0)), none⟩])
  (.block 2 (.loop [0, 2, 3, 4] x34L1)))))
  (.region [0, 2] [⟨(some 12), .mv (.t 2), none⟩,
    ⟨(some 13), .bin .add (.t 12) (.c (.int .i64 1)), none⟩,
    ⟨(some 2), .mv (.t 13), none⟩])))
/-- (*gearbox/gearboxlaw01.Book).fillVal · 1 parameters, 0 captured -/
def x34 : XFun := ⟨[],
  (.seq (.region [0, 2] [⟨(some 2), .mv (.c (.int .i64 0)), none⟩])
  (.block 0 (.loop [0, 2] x34L2)))⟩

def x28L1 : XCode :=
  (.seq (.seq (.region [0, 2, 3, 4, 25] [⟨(some 21), .mv (.t 4), none⟩,
    ⟨(some 22), .fieldA 0 (.t 3), none⟩,
    ⟨(some 23), .load none (.t 22), none⟩,
    ⟨(some 24), .len (.t 23), none⟩,
    ⟨(some 25), .bin .lss (.t 21) (.t 24), none⟩])
  (.cond (.t 25)
    .skip
    (.exit 2)))
  (.seq (.block 3 (.region [0, 2, 3, 4] [⟨(some 28), .fieldA 0 (.t 3), none⟩,
    ⟨(some 29), .load none (.t 28), none⟩,
    ⟨(some 30), .mv (.t 4), none⟩,
    ⟨(some 31), .fieldA 2 (.t 3), none⟩,
    ⟨(some 32), .load none (.t 31), none⟩,
    ⟨(some 33), .call .view 414 [(.t 32)], none⟩,
    ⟨(some 34), .idxA 5 (.t 29) (.t 30), none⟩,
    ⟨none, .store 5 (.t 34) (.t 33), none⟩]))
  (.region [0, 2, 3, 4] [⟨(some 26), .mv (.t 4), none⟩,
    ⟨(some 27), .bin .add (.t 26) (.c (.int .i64 1)), none⟩,
    ⟨(some 4), .mv (.t 27), none⟩])))
def x28L2 : XCode :=
  (.seq (.seq (.region [0, 2, 11] [⟨(some 5), .mv (.t 2), none⟩,
    ⟨(some 6), .mv (.t 0), none⟩,
    ⟨(some 7), .nilCheck (.t 6), none⟩,
    ⟨(some 8), .fieldA 5 (.t 7), none⟩,
    ⟨(some 9), .load none (.t 8), none⟩,
    ⟨(some 10), .len (.t 9), none⟩,
    ⟨(some 11), .bin .lss (.t 5) (.t 10), none⟩])
  (.cond (.t 11)
    .skip
    (.exit 0)))
  (.seq (.block 1 (.seq (.region [0, 2, 3] [⟨(some 14), .mv (.t 0), none⟩,
    ⟨(some 15), .nilCheck (.t 14), none⟩,
    ⟨(some 16), .fieldA 5 (.t 15), none⟩,
    ⟨(some 17), .load none (.t 16), none⟩,
    ⟨(some 18), .mv (.t 2), none⟩,
    ⟨(some 19), .idxA 3 (.t 17) (.t 18), none⟩,
    ⟨(some 20), .load (some 3) (.t 19), none⟩,
    ⟨(some 3), .alloc [(.slice none 0 0), (.slice none 0 0), (.int .i64 0)], none⟩,
    ⟨none, .store 3 (.t 3) (.t 20), none⟩])
  (.seq (.region [0, 2, 3, 4] [⟨(some 4), .mv (.c (.int .i64 0)), none⟩])
  (.block 2 (.loop [0, 2, 3, 4] x28L1)))))
  (.region [0, 2] [⟨(some 12), .mv (.t 2), none⟩,
    ⟨(some 13), .bin .add (.t 12) (.c (.int .i64 1)), none⟩,
    ⟨(some 2), .mv (.t 13), none⟩])))
/-- (*gearbox/gearboxlaw01.Book).fillObj · 1 parameters, 0 captured -/
def x28 : XFun := ⟨[],
  (.seq (.region [0, 2] [⟨(some 2), .mv (.c (.int .i64 0)), none⟩])
  (.block 0 (.loop [0, 2] x28L2)))⟩

def x24L1 : XCode :=
  (.seq (.seq (.region [0, 2, 3, 4, 25] [⟨(some 21), .mv (.t 4), none⟩,
    ⟨(some 22), .fieldA 0 (.t 3), none⟩,
    ⟨(some 23), .load none (.t 22), none⟩,
    ⟨(some 24), .len (.t 23), none⟩,
    ⟨(some 25), .bin .lss (.t 21) (.t 24), none⟩])
  (.cond (.t 25)
    .skip
    (.exit 2)))
  (.seq (.block 3 (.region [0, 2, 3, 4] [⟨(some 28), .fieldA 0 (.t 3), none⟩,
    ⟨(some 29), .load none (.t 28), none⟩,
    ⟨(some 30), .mv (.t 4), none⟩,
    ⟨(some 31), .fieldA 2 (.t 3), none⟩,
    ⟨(some 32), .load none (.t 31), none⟩,
    ⟨(some 33), .call .view 410 [(.t 32)], none⟩,
    ⟨(some 34), .idxA 2 (.t 29) (.t 30), none⟩,
    ⟨none, .store 2 (.t 34) (.t 33), none⟩]))
  (.region [0, 2, 3, 4] [⟨(some 26), .mv (.t 4), none⟩,
    ⟨(some 27), .bin .add (.t 26) (.c (.int .i64 1)), none⟩,
    ⟨(some 4), .mv (.t 27), none⟩])))
def x24L2 : XCode :=
  (.seq (.seq (.region [0, 2, 11] [⟨(some 5), .mv (.t 2), none⟩,
    ⟨(some 6), .mv (.t 0), none⟩,
    ⟨(some 7), .nilCheck (.t 6), none⟩,
    ⟨(some 8), .fieldA 6 (.t 7), none⟩,
    ⟨(some 9), .load none (.t 8), none⟩,
    ⟨(some 10), .len (.t 9), none⟩,
    ⟨(some 11), .bin .lss (.t 5) (.t 10), none⟩])
  (.cond (.t 11)
    .skip
    (.exit 0)))
  (.seq (.block 1 (.seq (.region [0, 2, 3] [⟨(some 14), .mv (.t 0), none⟩,
    ⟨(some 15), .nilCheck (.t 14), none⟩,
    ⟨(some 16), .fieldA 6 (.t 15), none⟩,
    ⟨(some 17), .load none (.t 16), none⟩,
    ⟨(some 18), .mv (.t 2), none⟩,
    ⟨(some 19), .idxA 3 (.t 17) (.t 18), none⟩,
    ⟨(some 20), .load (some 3) (.t 19), none⟩,
    ⟨(some 3), .alloc [(.slice none 0 0), (.slice none 0 0), (.int .i64 0)], none⟩,
    ⟨none, .store 3 (.t 3) (.t 20), none⟩])
  (.seq (.region [0, 2, 3, 4] [⟨(some 4), .mv (.c (.int .i64 0)), none⟩])
  (.block 2 (.loop [0, 2, 3, 4] x24L1)))))
  (.region [0, 2] [⟨(some 12), .mv (.t 2), none⟩,
    ⟨(some 13), .bin .add (.t 12) (.c (.int .i64 1)), none⟩,
    ⟨(some 2), .mv (.t 13), none⟩])))
/-- (*gearbox/gearboxlaw01.Book).fillIns · 1 parameters, 0 captured -/
def x24 : XFun := ⟨[],
  (.seq (.region [0, 2] [⟨(some 2), .mv (.c (.int .i64 0)), none⟩])
  (.block 0 (.loop [0, 2] x24L2)))⟩

def x18L1 : XCode :=
  (.seq (.seq (.region [0, 2, 3, 4, 25] [⟨(some 21), .mv (.t 4), none⟩,
    ⟨(some 22), .fieldA 0 (.t 3), none⟩,
    ⟨(some 23), .load none (.t 22), none⟩,
    ⟨(some 24), .len (.t 23), none⟩,
    ⟨(some 25), .bin .lss (.t 21) (.t 24), none⟩])
  (.cond (.t 25)
    .skip
    (.exit 2)))
  (.seq (.block 3 (.region [0, 2, 3, 4] [⟨(some 28), .fieldA 0 (.t 3), none⟩,
    ⟨(some 29), .load none (.t 28), none⟩,
    ⟨(some 30), .mv (.t 4), none⟩,
    ⟨(some 31), .fieldA 2 (.t 3), none⟩,
    ⟨(some 32), .load none (.t 31), none⟩,
    ⟨(some 33), .call .view 404 [(.t 32)], none⟩,
    ⟨(some 34), .idxA 3 (.t 29) (.t 30), none⟩,
    ⟨none, .store 3 (.t 34) (.t 33), none⟩]))
  (.region [0, 2, 3, 4] [⟨(some 26), .mv (.t 4), none⟩,
    ⟨(some 27), .bin .add (.t 26) (.c (.int .i64 1)), none⟩,
    ⟨(some 4), .mv (.t 27), none⟩])))
def x18L2 : XCode :=
  (.seq (.seq (.region [0, 2, 11] [⟨(some 5), .mv (.t 2), none⟩,
    ⟨(some 6), .mv (.t 0), none⟩,
    ⟨(some 7), .nilCheck (.t 6), none⟩,
    ⟨(some 8), .fieldA 7 (.t 7), none⟩,
    ⟨(some 9), .load none (.t 8), none⟩,
    ⟨(some 10), .len (.t 9), none⟩,
    ⟨(some 11), .bin .lss (.t 5) (.t 10), none⟩])
  (.cond (.t 11)
    .skip
    (.exit 0)))
  (.seq (.block 1 (.seq (.region [0, 2, 3] [⟨(some 14), .mv (.t 0), none⟩,
    ⟨(some 15), .nilCheck (.t 14), none⟩,
    ⟨(some 16), .fieldA 7 (.t 15), none⟩,
    ⟨(some 17), .load none (.t 16), none⟩,
    ⟨(some 18), .mv (.t 2), none⟩,
    ⟨(some 19), .idxA 3 (.t 17) (.t 18), none⟩,
    ⟨(some 20), .load (some 3) (.t 19), none⟩,
    ⟨(some 3), .alloc [(.slice none 0 0), (.slice none 0 0), (.int .i64 0)], none⟩,
    ⟨none, .store 3 (.t 3) (.t 20), none⟩])
  (.seq (.region [0, 2, 3, 4] [⟨(some 4), .mv (.c (.int .i64 0)), none⟩])
  (.block 2 (.loop [0, 2, 3, 4] x18L1)))))
  (.region [0, 2] [⟨(some 12), .mv (.t 2), none⟩,
    ⟨(some 13), .bin .add (.t 12) (.c (.int .i64 1)), none⟩,
    ⟨(some 2), .mv (.t 13), none⟩])))
/-- (*gearbox/gearboxlaw01.Book).fillConst · 1 parameters, 0 captured -/
def x18 : XFun := ⟨[],
  (.seq (.region [0, 2] [⟨(some 2), .mv (.c (.int .i64 0)), none⟩])
  (.block 0 (.loop [0, 2] x18L2)))⟩

def x17L1 : XCode :=
  (.seq (.seq (.region [0, 2, 3, 4, 25] [⟨(some 21), .mv (.t 4), none⟩,
    ⟨(some 22), .fieldA 0 (.t 3), none⟩,
    ⟨(some 23), .load none (.t 22), none⟩,
    ⟨(some 24), .len (.t 23), none⟩,
    ⟨(some 25), .bin .lss (.t 21) (.t 24), none⟩])
  (.cond (.t 25)
    .skip
    (.exit 2)))
  (.seq (.block 3 (.region [0, 2, 3, 4] [⟨(some 28), .fieldA 0 (.t 3), none⟩,
    ⟨(some 29), .load none (.t 28), none⟩,
    ⟨(some 30), .mv (.t 4), none⟩,
    ⟨(some 31), .fieldA 2 (.t 3), none⟩,
    ⟨(some 32), .load none (.t 31), none⟩,
    ⟨(some 33), .call .view 403 [(.t 32)], none⟩,
    ⟨(some 34), .idxA 2 (.t 29) (.t 30), none⟩,
    ⟨none, .store 2 (.t 34) (.t 33), none⟩]))
  (.region [0, 2, 3, 4] [⟨(some 26), .mv (.t 4), none⟩,
    ⟨(some 27), .bin .add (.t 26) (.c (.int .i64 1)), none⟩,
    ⟨(some 4), .mv (.t 27), none⟩])))
def x17L2 : XCode :=
  (.seq (.seq (.region [0, 2, 11] [⟨(some 5), .mv (.t 2), none⟩,
    ⟨(some 6), .mv (.t 0), none⟩,
    ⟨(some 7), .nilCheck (.t 6), none⟩,
    ⟨(some 8), .fieldA 8 (.t 7), none⟩,
    ⟨(some 9), .load none (.t 8), none⟩,
    ⟨(some 10), .len (.t 9), none⟩,
    ⟨(some 11), .bin .lss (.t 5) (.t 10), none⟩])
  (.cond (.t 11)
    .skip
    (.exit 0)))
  (.seq (.block 1 (.seq (.region [0, 2, 3] [⟨(some 14), .mv (.t 0), none⟩,
    ⟨(some 15), .nilCheck (.t 14), none⟩,
    ⟨(some 16), .fieldA 8 (.t 15), none⟩,
    ⟨(some 17), .load none (.t 16), none⟩,
    ⟨(some 18), .mv (.t 2), none⟩,
    ⟨(some 19), .idxA 3 (.t 17) (.t 18), none⟩,
    ⟨(some 20), .load (some 3) (.t 19), none⟩,
    ⟨(some 3), .alloc [(.slice none 0 0), (.slice none 0 0), (.int .i64 0)], none⟩,
    ⟨none, .store 3 (.t 3) (.t 20), none⟩])
  (.seq (.region [0, 2, 3, 4] [⟨(some 4), .mv (.c (.int .i64 0)), none⟩])
  (.block 2 (.loop [0, 2, 3, 4] x17L1)))))
  (.region [0, 2] [⟨(some 12), .mv (.t 2), none⟩,
    ⟨(some 13), .bin .add (.t 12) (.c (.int .i64 1)), none⟩,
    ⟨(some 2), .mv (.t 13), none⟩])))
/-- (*gearbox/gearboxlaw01.Book).fillCap · 1 parameters, 0 captured -/
def x17 : XFun := ⟨[],
  (.seq (.region [0, 2] [⟨(some 2), .mv (.c (.int .i64 0)), none⟩])
  (.block 0 (.loop [0, 2] x17L2)))⟩

def x23L1 : XCode :=
  (.seq (.seq (.region [0, 2, 3, 4, 25] [⟨(some 21), .mv (.t 4), none⟩,
    ⟨(some 22), .fieldA 0 (.t 3), none⟩,
    ⟨(some 23), .load none (.t 22), none⟩,
    ⟨(some 24), .len (.t 23), none⟩,
    ⟨(some 25), .bin .lss (.t 21) (.t 24), none⟩])
  (.cond (.t 25)
    .skip
    (.exit 2)))
  (.seq (.block 3 (.region [0, 2, 3, 4] [⟨(some 28), .fieldA 0 (.t 3), none⟩,
    ⟨(some 29), .load none (.t 28), none⟩,
    ⟨(some 30), .mv (.t 4), none⟩,
    ⟨(some 31), .fieldA 2 (.t 3), none⟩,
    ⟨(some 32), .load none (.t 31), none⟩,
    ⟨(some 33), .call .view 409 [(.t 32)], none⟩,
    ⟨(some 34), .idxA 4 (.t 29) (.t 30), none⟩,
    ⟨none, .store 4 (.t 34) (.t 33), none⟩]))
  (.region [0, 2, 3, 4] [⟨(some 26), .mv (.t 4), none⟩,
    ⟨(some 27), .bin .add (.t 26) (.c (.int .i64 1)), none⟩,
    ⟨(some 4), .mv (.t 27), none⟩])))
def x23L2 : XCode :=
  (.seq (.seq (.region [0, 2, 11] [⟨(some 5), .mv (.t 2), none⟩,
    ⟨(some 6), .mv (.t 0), none⟩,
    ⟨(some 7), .nilCheck (.t 6), none⟩,
    ⟨(some 8), .fieldA 9 (.t 7), none⟩,
    ⟨(some 9), .load none (.t 8), none⟩,
    ⟨(some 10), .len (.t 9), none⟩,
    ⟨(some 11), .bin .lss (.t 5) (.t 10), none⟩])
  (.cond (.t 11)
    .skip
    (.exit 0)))
  (.seq (.block 1 (.seq (.region [0, 2, 3] [⟨(some 14), .mv (.t 0), none⟩,
    ⟨(some 15), .nilCheck (.t 14), none⟩,
    ⟨(some 16), .fieldA 9 (.t 15), none⟩,
    ⟨(some 17), .load none (.t 16), none⟩,
    ⟨(some 18), .mv (.t 2), none⟩,
    ⟨(some 19), .idxA 3 (.t 17) (.t 18), none⟩,
    ⟨(some 20), .load (some 3) (.t 19), none⟩,
    ⟨(some 3), .alloc [(.slice none 0 0), (.slice none 0 0), (.int .i64 0)], none⟩,
    ⟨none, .store 3 (.t 3) (.t 20), none⟩])
  (.seq (.region [0, 2, 3, 4] [⟨(some 4), .mv (.c (.int .i64 0)), none⟩])
  (.block 2 (.loop [0, 2, 3, 4] x23L1)))))
  (.region [0, 2] [⟨(some 12), .mv (.t 2), none⟩,
    ⟨(some 13), .bin .add (.t 12) (.c (.int .i64 1)), none⟩,
    ⟨(some 2), .mv (.t 13), none⟩])))
/-- (*gearbox/gearboxlaw01.Book).fillHandler · 1 parameters, 0 captured -/
def x23 : XFun := ⟨[],
  (.seq (.region [0, 2] [⟨(some 2), .mv (.c (.int .i64 0)), none⟩])
  (.block 0 (.loop [0, 2] x23L2)))⟩

def x22L1 : XCode :=
  (.seq (.seq (.region [0, 2, 3, 4, 25] [⟨(some 21), .mv (.t 4), none⟩,
    ⟨(some 22), .fieldA 0 (.t 3), none⟩,
    ⟨(some 23), .load none (.t 22), none⟩,
    ⟨(some 24), .len (.t 23), none⟩,
    ⟨(some 25), .bin .lss (.t 21) (.t 24), none⟩])
  (.cond (.t 25)
    .skip
    (.exit 2)))
  (.seq (.block 3 (.region [0, 2, 3, 4] [⟨(some 28), .fieldA 0 (.t 3), none⟩,
    ⟨(some 29), .load none (.t 28), none⟩,
    ⟨(some 30), .mv (.t 4), none⟩,
    ⟨(some 31), .fieldA 2 (.t 3), none⟩,
    ⟨(some 32), .load none (.t 31), none⟩,
    ⟨(some 33), .call .view 408 [(.t 32)], none⟩,
    ⟨(some 34), .idxA 8 (.t 29) (.t 30), none⟩,
    ⟨none, .store 8 (.t 34) (.t 33), none⟩]))
  (.region [0, 2, 3, 4] [⟨(some 26), .mv (.t 4), none⟩,
    ⟨(some 27), .bin .add (.t 26) (.c (.int .i64 1)), none⟩,
    ⟨(some 4), .mv (.t 27), none⟩])))
def x22L2 : XCode :=
  (.seq (.seq (.region [0, 2, 11] [⟨(some 5), .mv (.t 2), none⟩,
    ⟨(some 6), .mv (.t 0), none⟩,
    ⟨(some 7), .nilCheck (.t 6), none⟩,
    ⟨(some 8), .fieldA 10 (.t 7), none⟩,
    ⟨(some 9), .load none (.t 8), none⟩,
    ⟨(some 10), .len (.t 9), none⟩,
    ⟨(some 11), .bin .lss (.t 5) (.t 10), none⟩])
  (.cond (.t 11)
    .skip
    (.exit 0)))
  (.seq (.block 1 (.seq (.region [0, 2, 3] [⟨(some 14), .mv (.t 0), none⟩,
    ⟨(some 15), .nilCheck (.t 14), none⟩,
    ⟨(some 16), .fieldA 10 (.t 15), none⟩,
    ⟨(some 17), .load none (.t 16), none⟩,
    ⟨(some 18), .mv (.t 2), none⟩,
    ⟨(some 19), .idxA 3 (.t 17) (.t 18), none⟩,
    ⟨(some 20), .load (some 3) (.t 19), none⟩,
    ⟨(some 3), .alloc [(.slice none 0 0), (.slice none 0 0), (.int .i64 0)], none⟩,
    ⟨none, .store 3 (.t 3) (.t 20), none⟩])
  (.seq (.region [0, 2, 3, 4] [⟨(some 4), .mv (.c (.int .i64 0)), none⟩])
  (.block 2 (.loop [0, 2, 3, 4] x22L1)))))
  (.region [0, 2] [⟨(some 12), .mv (.t 2), none⟩,
    ⟨(some 13), .bin .add (.t 12) (.c (.int .i64 1)), none⟩,
    ⟨(some 2), .mv (.t 13), none⟩])))
/-- (*gearbox/gearboxlaw01.Book).fillFn · 1 parameters, 0 captured -/
def x22 : XFun := ⟨[],
  (.seq (.region [0, 2] [⟨(some 2), .mv (.c (.int .i64 0)), none⟩])
  (.block 0 (.loop [0, 2] x22L2)))⟩

def x21L1 : XCode :=
  (.seq (.seq (.region [0, 2, 3, 4, 25] [⟨(some 21), .mv (.t 4), none⟩,
    ⟨(some 22), .fieldA 0 (.t 3), none⟩,
    ⟨(some 23), .load none (.t 22), none⟩,
    ⟨(some 24), .len (.t 23), none⟩,
    ⟨(some 25), .bin .lss (.t 21) (.t 24), none⟩])
  (.cond (.t 25)
    .skip
    (.exit 2)))
  (.seq (.block 3 (.region [0, 2, 3, 4] [⟨(some 28), .fieldA 0 (.t 3), none⟩,
    ⟨(some 29), .load none (.t 28), none⟩,
    ⟨(some 30), .mv (.t 4), none⟩,
    ⟨(some 31), .fieldA 2 (.t 3), none⟩,
    ⟨(some 32), .load none (.t 31), none⟩,
    ⟨(some 33), .call .view 407 [(.t 32)], none⟩,
    ⟨(some 34), .idxA 7 (.t 29) (.t 30), none⟩,
    ⟨none, .store 7 (.t 34) (.t 33), none⟩]))
  (.region [0, 2, 3, 4] [⟨(some 26), .mv (.t 4), none⟩,
    ⟨(some 27), .bin .add (.t 26) (.c (.int .i64 1)), none⟩,
    ⟨(some 4), .mv (.t 27), none⟩])))
def x21L2 : XCode :=
  (.seq (.seq (.region [0, 2, 11] [⟨(some 5), .mv (.t 2), none⟩,
    ⟨(some 6), .mv (.t 0), none⟩,
    ⟨(some 7), .nilCheck (.t 6), none⟩,
    ⟨(some 8), .fieldA 11 (.t 7), none⟩,
    ⟨(some 9), .load none (.t 8), none⟩,
    ⟨(some 10), .len (.t 9), none⟩,
    ⟨(some 11), .bin .lss (.t 5) (.t 10), none⟩])
  (.cond (.t 11)
    .skip
    (.exit 0)))
  (.seq (.block 1 (.seq (.region [0, 2, 3] [⟨(some 14), .mv (.t 0), none⟩,
    ⟨(some 15), .nilCheck (.t 14), none⟩,
    ⟨(some 16), .fieldA 11 (.t 15), none⟩,
    ⟨(some 17), .load none (.t 16), none⟩,
    ⟨(some 18), .mv (.t 2), none⟩,
    ⟨(some 19), .idxA 3 (.t 17) (.t 18), none⟩,
    ⟨(some 20), .load (some 3) (.t 19), none⟩,
    ⟨(some 3), .alloc [(.slice none 0 0), (.slice none 0 0), (.int .i64 0)], none⟩,
    ⟨none, .store 3 (.t 3) (.t 20), none⟩])
  (.seq (.region [0, 2, 3, 4] [⟨(some 4), .mv (.c (.int .i64 0)), none⟩])
  (.block 2 (.loop [0, 2, 3, 4] x21L1)))))
  (.region [0, 2] [⟨(some 12), .mv (.t 2), none⟩,
    ⟨(some 13), .bin .add (.t 12) (.c (.int .i64 1)), none⟩,
    ⟨(some 2), .mv (.t 13), none⟩])))
/-- (*gearbox/gearboxlaw01.Book).fillExpr · 1 parameters, 0 captured -/
def x21 : XFun := ⟨[],
  (.seq (.region [0, 2] [⟨(some 2), .mv (.c (.int .i64 0)), none⟩])
  (.block 0 (.loop [0, 2] x21L2)))⟩

def x32L1 : XCode :=
  (.seq (.seq (.region [0, 2, 3, 4, 25] [⟨(some 21), .mv (.t 4), none⟩,
    ⟨(some 22), .fieldA 0 (.t 3), none⟩,
    ⟨(some 23), .load none (.t 22), none⟩,
    ⟨(some 24), .len (.t 23), none⟩,
    ⟨(some 25), .bin .lss (.t 21) (.t 24), none⟩])
  (.cond (.t 25)
    .skip
    (.exit 2)))
  (.seq (.block 3 (.region [0, 2, 3, 4] [⟨(some 28), .fieldA 0 (.t 3), none⟩,
    ⟨(some 29), .load none (.t 28), none⟩,
    ⟨(some 30), .mv (.t 4), none⟩,
    ⟨(some 31), .fieldA 2 (.t 3), none⟩,
    ⟨(some 32), .load none (.t 31), none⟩,
    ⟨(some 33), .call .view 418 [(.t 32)], none⟩,
    ⟨(some 34), .idxA 6 (.t 29) (.t 30), none⟩,
    ⟨none, .store 6 (.t 34) (.t 33), none⟩]))
  (.region [0, 2, 3, 4] [⟨(some 26), .mv (.t 4), none⟩,
    ⟨(some 27), .bin .add (.t 26) (.c (.int .i64 1)), none⟩,
    ⟨(some 4), .mv (.t 27), none⟩])))
def x32L2 : XCode :=
  (.seq (.seq (.region [0, 2, 11] [⟨(some 5), .mv (.t 2), none⟩,
    ⟨(some 6), .mv (.t 0), none⟩,
    ⟨(some 7), .nilCheck (.t 6), none⟩,
    ⟨(some 8), .fieldA 12 (.t 7), none⟩,
    ⟨(some 9), .load none (.t 8), none⟩,
    ⟨(some 10), .len (.t 9), none⟩,
    ⟨(some 11), .bin .lss (.t 5) (.t 10), none⟩])
  (.cond (.t 11)
    .skip
    (.exit 0)))
  (.seq (.block 1 (.seq (.region [0, 2, 3] [⟨(some 14), .mv (.t 0), none⟩,
    ⟨(some 15), .nilCheck (.t 14), none⟩,
    ⟨(some 16), .fieldA 12 (.t 15), none⟩,
    ⟨(some 17), .load none (.t 16), none⟩,
    ⟨(some 18), .mv (.t 2), none⟩,
    ⟨(some 19), .idxA 3 (.t 17) (.t 18), none⟩,
    ⟨(some 20), .load (some 3) (.t 19), none⟩,
    ⟨(some 3), .alloc [(.slice none 0 0), (.slice none 0 0), (.int .i64 0)], none⟩,
    ⟨none, .store 3 (.t 3) (.t 20), none⟩])
  (.seq (.region [0, 2, 3, 4] [⟨(some 4), .mv (.c (.int .i64 0)), none⟩])
  (.block 2 (.loop [0, 2, 3, 4] x32L1)))))
  (.region [0, 2] [⟨(some 12), .mv (.t 2), none⟩,
    ⟨(some 13), .bin .add (.t 12) (.c (.int .i64 1)), none⟩,
    ⟨(some 2), .mv (.t 13), none⟩])))
/-- (*gearbox/gearboxlaw01.Book).fillStmt · 1 parameters, 0 captured -/
def x32 : XFun := ⟨[],
  (.seq (.region [0, 2] [⟨(some 2), .mv (.c (.int .i64 0)), none⟩])
  (.block 0 (.loop [0, 2] x32L2)))⟩

def x35L1 : XCode :=
  (.seq (.seq (.region [0, 2, 3, 4, 25] [⟨(some 21), .mv (.t 4), none⟩,
    ⟨(some 22), .fieldA 0 (.t 3), none⟩,
    ⟨(some 23), .load none (.t 22), none⟩,
    ⟨(some 24), .len (.t 23), none⟩,
    ⟨(some 25), .bin .lss (.t 21) (.t 24), none⟩])
  (.cond (.t 25)
    .skip
    (.exit 2)))
  (.seq (.block 3 (.region [0, 2, 3, 4] [⟨(some 28), .fieldA 0 (.t 3), none⟩,
    ⟨(some 29), .load none (.t 28), none⟩,
    ⟨(some 30), .mv (.t 4), none⟩,
    ⟨(some 31), .fieldA 2 (.t 3), none⟩,
    ⟨(some 32), .load none (.t 31), none⟩,
    ⟨(some 33), .call .view 421 [(.t 32)], none⟩,
    ⟨(some 34), .idxA 4 (.t 29) (.t 30), none⟩,
    ⟨none, .store 4 (.t 34) (.t 33), none⟩]))
  (.region [0, 2, 3, 4] [⟨(some 26), .mv (.t 4), none⟩,
    ⟨(some 27), .bin .add (.t 26) (.c (.int .i64 1)), none⟩,
    ⟨(some 4), .mv (.t 27), none⟩])))
def x35L2 : XCode :=
  (.seq (.seq (.region [0, 2, 11] [⟨(some 5), .mv (.t 2), none⟩,
    ⟨(some 6), .mv (.t 0), none⟩,
    ⟨(some 7), .nilCheck (.t 6), none⟩,
    ⟨(some 8), .fieldA 13 (.t 7), none⟩,
    ⟨(some 9), .load none (.t 8), none⟩,
    ⟨(some 10), .len (.t 9), none⟩,
    ⟨(some 11), .bin .lss (.t 5) (.t 10), none⟩])
  (.cond (.t 11)
    .skip
    (.exit 0)))
  (.seq (.block 1 (.seq (.region [0, 2, 3] [⟨(some 14), .mv (.t 0), none⟩,
    ⟨(some 15), .nilCheck (.t 14), none⟩,
    ⟨(some 16), .fieldA 13 (.t 15), none⟩,
    ⟨(some 17), .load none (.t 16), none⟩,
    ⟨(some 18), .mv (.t 2), none⟩,
    ⟨(some 19), .idxA 3 (.t 17) (.t 18), none⟩,
    ⟨(some 20), .load (some 3) (.t 19), none⟩,
    ⟨(some 3), .alloc [(.slice none 0 0), (.slice none 0 0), (.int .i64 0)], none⟩,
    ⟨none, .store 3 (.t 3) (.t 20), none⟩])
  (.seq (.region [0, 2, 3, 4] [⟨(some 4), .mv (.c (.int .i64 0)), none⟩])
  (.block 2 (.loop [0, 2, 3, 4] x35L1)))))
  (.region [0, 2] [⟨(some 12), .mv (.t 2), none⟩,
    ⟨(some 13), .bin .add (.t 12) (.c (.int .i64 1)), none⟩,
    ⟨(some 2), .mv (.t 13), none⟩])))
/-- (*gearbox/gearboxlaw01.Book).fillWord · 1 parameters, 0 captured -/
def x35 : XFun := ⟨[],
  (.seq (.region [0, 2] [⟨(some 2), .mv (.c (.int .i64 0)), none⟩])
  (.block 0 (.loop [0, 2] x35L2)))⟩

def x30L1 : XCode :=
  (.seq (.seq (.region [0, 2, 3, 4, 25] [⟨(some 21), .mv (.t 4), none⟩,
    ⟨(some 22), .fieldA 0 (.t 3), none⟩,
    ⟨(some 23), .load none (.t 22), none⟩,
    ⟨(some 24), .len (.t 23), none⟩,
    ⟨(some 25), .bin .lss (.t 21) (.t 24), none⟩])
  (.cond (.t 25)
    .skip
    (.exit 2)))
  (.seq (.block 3 (.region [0, 2, 3, 4] [⟨(some 28), .fieldA 0 (.t 3), none⟩,
    ⟨(some 29), .load none (.t 28), none⟩,
    ⟨(some 30), .mv (.t 4), none⟩,
    ⟨(some 31), .fieldA 2 (.t 3), none⟩,
    ⟨(some 32), .load none (.t 31), none⟩,
    ⟨(some 33), .call .view 416 [(.t 32)], none⟩,
    ⟨(some 34), .idxA 6 (.t 29) (.t 30), none⟩,
    ⟨none, .store 6 (.t 34) (.t 33), none⟩]))
  (.region [0, 2, 3, 4] [⟨(some 26), .mv (.t 4), none⟩,
    ⟨(some 27), .bin .add (.t 26) (.c (.int .i64 1)), none⟩,
    ⟨(some 4), .mv (.t 27), none⟩])))
def x30L2 : XCode :=
  (.seq (.seq (.region [0, 2, 11] [⟨(some 5), .mv (.t 2), none⟩,
    ⟨(some 6), .mv (.t 0), none⟩,
    ⟨(some 7), .nilCheck (.t 6), none⟩,
    ⟨(some 8), .fieldA 14 (.t 7), none⟩,
    ⟨(some 9), .load none (.t 8), none⟩,
    ⟨(some 10), .len (.t 9), none⟩,
    ⟨(some 11), .bin .lss (.t 5) (.t 10), none⟩])
  (.cond (.t 11)
    .skip
    (.exit 0)))
  (.seq (.block 1 (.seq (.region [0, 2, 3] [⟨(some 14), .mv (.t 0), none⟩,
    ⟨(some 15), .nilCheck (.t 14), none⟩,
    ⟨(some 16), .fieldA 14 (.t 15), none⟩,
    ⟨(some 17), .load none (.t 16), none⟩,
    ⟨(some 18), .mv (.t 2), none⟩,
    ⟨(some 19), .idxA 3 (.t 17) (.t 18), none⟩,
    ⟨(some 20), .load (some 3) (.t 19), none⟩,
    ⟨(some 3), .alloc [(.slice none 0 0), (.slice none 0 0), (.int .i64 0)], none⟩,
    ⟨none, .store 3 (.t 3) (.t 20), none⟩])
  (.seq (.region [0, 2, 3, 4] [⟨(some 4), .mv (.c (.int .i64 0)), none⟩])
  (.block 2 (.loop [0, 2, 3, 4] x30L1)))))
  (.region [0, 2] [⟨(some 12), .mv (.t 2), none⟩,
    ⟨(some 13), .bin .add (.t 12) (.c (.int .i64 1)), none⟩,
    ⟨(some 2), .mv (.t 13), none⟩])))
/-- (*gearbox/gearboxlaw01.Book).fillRegIns · 1 parameters, 0 captured -/
def x30 : XFun := ⟨[],
  (.seq (.region [0, 2] [⟨(some 2), .mv (.c (.int .i64 0)), none⟩])
  (.block 0 (.loop [0, 2] x30L2)))⟩

def x26L1 : XCode :=
  (.seq (.seq (.region [0, 2, 3, 4, 25] [⟨(some 21), .mv (.t 4), none⟩,
    ⟨(some 22), .fieldA 0 (.t 3), none⟩,
    ⟨(some 23), .load none (.t 22), none⟩,
    ⟨(some 24), .len (.t 23), none⟩,
    ⟨(some 25), .bin .lss (.t 21) (.t 24), none⟩])
  (.cond (.t 25)
    .skip
    (.exit 2)))
  (.seq (.block 3 (.region [0, 2, 3, 4] [⟨(some 28), .fieldA 0 (.t 3), none⟩,
    ⟨(some 29), .load none (.t 28), none⟩,
    ⟨(some 30), .mv (.t 4), none⟩,
    ⟨(some 31), .fieldA 2 (.t 3), none⟩,
    ⟨(some 32), .load none (.t 31), none⟩,
    ⟨(some 33), .call .view 412 [(.t 32)], none⟩,
    ⟨(some 34), .idxA 3 (.t 29) (.t 30), none⟩,
    ⟨none, .store 3 (.t 34) (.t 33), none⟩]))
  (.region [0, 2, 3, 4] [⟨(some 26), .mv (.t 4), none⟩,
    ⟨(some 27), .bin .add (.t 26) (.c (.int .i64 1)), none⟩,
    ⟨(some 4), .mv (.t 27), none⟩])))
def x26L2 : XCode :=
  (.seq (.seq (.region [0, 2, 11] [⟨(some 5), .mv (.t 2), none⟩,
    ⟨(some 6), .mv (.t 0), none⟩,
    ⟨(some 7), .nilCheck (.t 6), none⟩,
    ⟨(some 8), .fieldA 15 (.t 7), none⟩,
    ⟨(some 9), .load none (.t 8), none⟩,
    ⟨(some 10), .len (.t 9), none⟩,
    ⟨(some 11), .bin .lss (.t 5) (.t 10), none⟩])
  (.cond (.t 11)
    .skip
    (.exit 0)))
  (.seq (.block 1 (.seq (.region [0, 2, 3] [⟨(some 14), .mv (.t 0), none⟩,
    ⟨(some 15), .nilCheck (.t 14), none⟩,
    ⟨(some 16), .fieldA 15 (.t 15), none⟩,
    ⟨(some 17), .load none (.t 16), none⟩,
    ⟨(some 18), .mv (.t 2), none⟩,
    ⟨(some 19), .idxA 3 (.t 17) (.t 18), none⟩,
    ⟨(some 20), .load (some 3) (.t 19), none⟩,
    ⟨(some 3), .alloc [(.slice none 0 0), (.slice none 0 0), (.int .i64 0)], none⟩,
    ⟨none, .store 3 (.t 3) (.t 20), none⟩])
  (.seq (.region [0, 2, 3, 4] [⟨(some 4), .mv (.c (.int .i64 0)), none⟩])
  (.block 2 (.loop [0, 2, 3, 4] x26L1)))))
  (.region [0, 2] [⟨(some 12), .mv (.t 2), none⟩,
    ⟨(some 13), .bin .add (.t 12) (.c (.int .i64 1)), none⟩,
    ⟨(some 2), .mv (.t 13), none⟩])))
/-- (*gearbox/gearboxlaw01.Book).fillLoc · 1 parameters, 0 captured -/
def x26 : XFun := ⟨[],
  (.seq (.region [0, 2] [⟨(some 2), .mv (.c (.int .i64 0)), none⟩])
  (.block 0 (.loop [0, 2] x26L2)))⟩

def x20L1 : XCode :=
  (.seq (.seq (.region [0, 2, 3, 4, 25] [⟨(some 21), .mv (.t 4), none⟩,
    ⟨(some 22), .fieldA 0 (.t 3), none⟩,
    ⟨(some 23), .load none (.t 22), none⟩,
    ⟨(some 24), .len (.t 23), none⟩,
    ⟨(some 25), .bin .lss (.t 21) (.t 24), none⟩])
  (.cond (.t 25)
    .skip
    (.exit 2)))
  (.seq (.block 3 (.region [0, 2, 3, 4] [⟨(some 28), .fieldA 0 (.t 3), none⟩,
    ⟨(some 29), .load none (.t 28), none⟩,
    ⟨(some 30), .mv (.t 4), none⟩,
    ⟨(some 31), .fieldA 2 (.t 3), none⟩,
    ⟨(some 32), .load none (.t 31), none⟩,
    ⟨(some 33), .call .view 406 [(.t 32)], none⟩,
    ⟨(some 34), .idxA 2 (.t 29) (.t 30), none⟩,
    ⟨none, .store 2 (.t 34) (.t 33), none⟩]))
  (.region [0, 2, 3, 4] [⟨(some 26), .mv (.t 4), none⟩,
    ⟨(some 27), .bin .add (.t 26) (.c (.int .i64 1)), none⟩,
    ⟨(some 4), .mv (.t 27), none⟩])))
def x20L2 : XCode :=
  (.seq (.seq (.region [0, 2, 11] [⟨(some 5), .mv (.t 2), none⟩,
    ⟨(some 6), .mv (.t 0), none⟩,
    ⟨(some 7), .nilCheck (.t 6), none⟩,
    ⟨(some 8), .fieldA 16 (.t 7), none⟩,
    ⟨(some 9), .load none (.t 8), none⟩,
    ⟨(some 10), .len (.t 9), none⟩,
    ⟨(some 11), .bin .lss (.t 5) (.t 10), none⟩])
  (.cond (.t 11)
    .skip
    (.exit 0)))
  (.seq (.block 1 (.seq (.region [0, 2, 3] [⟨(some 14), .mv (.t 0), none⟩,
    ⟨(some 15), .nilCheck (.t 14), none⟩,
    ⟨(some 16), .fieldA 16 (.t 15), none⟩,
    ⟨(some 17), .load none (.t 16), none⟩,
    ⟨(some 18), .mv (.t 2), none⟩,
    ⟨(some 19), .idxA 3 (.t 17) (.t 18), none⟩,
    ⟨(some 20), .load (some 3) (.t 19), none⟩,
    ⟨(some 3), .alloc [(.slice none 0 0), (.slice none 0 0), (.int .i64 0)], none⟩,
    ⟨none, .store 3 (.t 3) (.t 20), none⟩])
  (.seq (.region [0, 2, 3, 4] [⟨(some 4), .mv (.c (.int .i64 0)), none⟩])
  (.block 2 (.loop [0, 2, 3, 4] x20L1)))))
  (.region [0, 2] [⟨(some 12), .mv (.t 2), none⟩,
    ⟨(some 13), .bin .add (.t 12) (.c (.int .i64 1)), none⟩,
    ⟨(some 2), .mv (.t 13), none⟩])))
/-- (*gearbox/gearboxlaw01.Book).fillExit · 1 parameters, 0 captured -/
def x20 : XFun := ⟨[],
  (.seq (.region [0, 2] [⟨(some 2), .mv (.c (.int .i64 0)), none⟩])
  (.block 0 (.loop [0, 2] x20L2)))⟩

def x19L1 : XCode :=
  (.seq (.seq (.region [0, 2, 3, 4, 25] [⟨(some 21), .mv (.t 4), none⟩,
    ⟨(some 22), .fieldA 0 (.t 3), none⟩,
    ⟨(some 23), .load none (.t 22), none⟩,
    ⟨(some 24), .len (.t 23), none⟩,
    ⟨(some 25), .bin .lss (.t 21) (.t 24), none⟩])
  (.cond (.t 25)
    .skip
    (.exit 2)))
  (.seq (.block 3 (.region [0, 2, 3, 4] [⟨(some 28), .fieldA 0 (.t 3), none⟩,
    ⟨(some 29), .load none (.t 28), none⟩,
    ⟨(some 30), .mv (.t 4), none⟩,
    ⟨(some 31), .fieldA 2 (.t 3), none⟩,
    ⟨(some 32), .load none (.t 31), none⟩,
    ⟨(some 33), .call .view 405 [(.t 32)], none⟩,
    ⟨(some 34), .idxA 3 (.t 29) (.t 30), none⟩,
    ⟨none, .store 3 (.t 34) (.t 33), none⟩]))
  (.region [0, 2, 3, 4] [⟨(some 26), .mv (.t 4), none⟩,
    ⟨(some 27), .bin .add (.t 26) (.c (.int .i64 1)), none⟩,
    ⟨(some 4), .mv (.t 27), none⟩])))
def x19L2 : XCode :=
  (.seq (.seq (.region [0, 2, 11] [⟨(some 5), .mv (.t 2), none⟩,
    ⟨(some 6), .mv (.t 0), none⟩,
    ⟨(some 7), .nilCheck (.t 6), none⟩,
    ⟨(some 8), .fieldA 17 (.t 7), none⟩,
    ⟨(some 9), .load none (.t 8), none⟩,
    ⟨(some 10), .len (.t 9), none⟩,
    ⟨(some 11), .bin .lss (.t 5) (.t 10), none⟩])
  (.cond (.t 11)
    .skip
    (.exit 0)))
  (.seq (.block 1 (.seq (.region [0, 2, 3] [⟨(some 14), .mv (.t 0), none⟩,
    ⟨(some 15), .nilCheck (.t 14), none⟩,
    ⟨(some 16), .fieldA 17 (.t 15), none⟩,
    ⟨(some 17), .load none (.t 16), none⟩,
    ⟨(some 18), .mv (.t 2), none⟩,
    ⟨(some 19), .idxA 3 (.t 17) (.t 18), none⟩,
    ⟨(some 20), .load (some 3) (.t 19), none⟩,
    ⟨(some 3), .alloc [(.slice none 0 0), (.slice none 0 0), (.int .i64 0)], none⟩,
    ⟨none, .store 3 (.t 3) (.t 20), none⟩])
  (.seq (.region [0, 2, 3, 4] [⟨(some 4), .mv (.c (.int .i64 0)), none⟩])
  (.block 2 (.loop [0, 2, 3, 4] x19L1)))))
  (.region [0, 2] [⟨(some 12), .mv (.t 2), none⟩,
    ⟨(some 13), .bin .add (.t 12) (.c (.int .i64 1)), none⟩,
    ⟨(some 2), .mv (.t 13), none⟩])))
/-- (*gearbox/gearboxlaw01.Book).fillEntry · 1 parameters, 0 captured -/
def x19 : XFun := ⟨[],
  (.seq (.region [0, 2] [⟨(some 2), .mv (.c (.int .i64 0)), none⟩])
  (.block 0 (.loop [0, 2] x19L2)))⟩

def x27L1 : XCode :=
  (.seq (.seq (.region [0, 2, 3, 4, 25] [⟨(some 21), .mv (.t 4), none⟩,
    ⟨(some 22), .fieldA 0 (.t 3), none⟩,
    ⟨(some 23), .load none (.t 22), none⟩,
    ⟨(some 24), .len (.t 23), none⟩,
    ⟨(some 25), .bin .lss (.t 21) (.t 24), none⟩])
  (.cond (.t 25)
    .skip
    (.exit 2)))
  (.seq (.block 3 (.region [0, 2, 3, 4] [⟨(some 28), .fieldA 0 (.t 3), none⟩,
    ⟨(some 29), .load none (.t 28), none⟩,
    ⟨(some 30), .mv (.t 4), none⟩,
    ⟨(some 31), .fieldA 2 (.t 3), none⟩,
    ⟨(some 32), .load none (.t 31), none⟩,
    ⟨(some 33), .call .view 413 [(.t 32)], none⟩,
    ⟨(some 34), .idxA 5 (.t 29) (.t 30), none⟩,
    ⟨none, .store 5 (.t 34) (.t 33), none⟩]))
  (.region [0, 2, 3, 4] [⟨(some 26), .mv (.t 4), none⟩,
    ⟨(some 27), .bin .add (.t 26) (.c (.int .i64 1)), none⟩,
    ⟨(some 4), .mv (.t 27), none⟩])))
def x27L2 : XCode :=
  (.seq (.seq (.region [0, 2, 11] [⟨(some 5), .mv (.t 2), none⟩,
    ⟨(some 6), .mv (.t 0), none⟩,
    ⟨(some 7), .nilCheck (.t 6), none⟩,
    ⟨(some 8), .fieldA 18 (.t 7), none⟩,
    ⟨(some 9), .load none (.t 8), none⟩,
    ⟨(some 10), .len (.t 9), none⟩,
    ⟨(some 11), .bin .lss (.t 5) (.t 10), none⟩])
  (.cond (.t 11)
    .skip
    (.exit 0)))
  (.seq (.block 1 (.seq (.region [0, 2, 3] [⟨(some 14), .mv (.t 0), none⟩,
    ⟨(some 15), .nilCheck (.t 14), none⟩,
    ⟨(some 16), .fieldA 18 (.t 15), none⟩,
    ⟨(some 17), .load none (.t 16), none⟩,
    ⟨(some 18), .mv (.t 2), none⟩,
    ⟨(some 19), .idxA 3 (.t 17) (.t 18), none⟩,
    ⟨(some 20), .load (some 3) (.t 19), none⟩,
    ⟨(some 3), .alloc [(.slice none 0 0), (.slice none 0 0), (.int .i64 0)], none⟩,
    ⟨none, .store 3 (.t 3) (.t 20), none⟩])
  (.seq (.region [0, 2, 3, 4] [⟨(some 4), .mv (.c (.int .i64 0)), none⟩])
  (.block 2 (.loop [0, 2, 3, 4] x27L1)))))
  (.region [0, 2] [⟨(some 12), .mv (.t 2), none⟩,
    ⟨(some 13), .bin .add (.t 12) (.c (.int .i64 1)), none⟩,
    ⟨(some 2), .mv (.t 13), none⟩])))
/-- (*gearbox/gearboxlaw01.Book).fillNode · 1 parameters, 0 captured -/
def x27 : XFun := ⟨[],
  (.seq (.region [0, 2] [⟨(some 2), .mv (.c (.int .i64 0)), none⟩])
  (.block 0 (.loop [0, 2] x27L2)))⟩

def x16L1 : XCode :=
  (.seq (.seq (.region [0, 2, 3, 4, 25] [⟨(some 21), .mv (.t 4), none⟩,
    ⟨(some 22), .fieldA 0 (.t 3), none⟩,
    ⟨(some 23), .load none (.t 22), none⟩,
    ⟨(some 24), .len (.t 23), none⟩,
    ⟨(some 25), .bin .lss (.t 21) (.t 24), none⟩])
  (.cond (.t 25)
    .skip
    (.exit 2)))
  (.seq (.block 3 (.region [0, 2, 3, 4] [⟨(some 28), .fieldA 0 (.t 3), none⟩,
    ⟨(some 29), .load none (.t 28), none⟩,
    ⟨(some 30), .mv (.t 4), none⟩,
    ⟨(some 31), .fieldA 2 (.t 3), none⟩,
    ⟨(some 32), .load none (.t 31), none⟩,
    ⟨(some 33), .call .view 402 [(.t 32)], none⟩,
    ⟨(some 34), .idxA 6 (.t 29) (.t 30), none⟩,
    ⟨none, .store 6 (.t 34) (.t 33), none⟩]))
  (.region [0, 2, 3, 4] [⟨(some 26), .mv (.t 4), none⟩,
    ⟨(some 27), .bin .add (.t 26) (.c (.int .i64 1)), none⟩,
    ⟨(some 4), .mv (.t 27), none⟩])))
def x16L2 : XCode :=
  (.seq (.seq (.region [0, 2, 11] [⟨(some 5), .mv (.t 2), none⟩,
    ⟨(some 6), .mv (.t 0), none⟩,
    ⟨(some 7), .nilCheck (.t 6), none⟩,
    ⟨(some 8), .fieldA 19 (.t 7), none⟩,
    ⟨(some 9), .load none (.t 8), none⟩,
    ⟨(some 10), .len (.t 9), none⟩,
    ⟨(some 11), .bin .lss (.t 5) (.t 10), none⟩])
  (.cond (.t 11)
    .skip
    (.exit 0)))
  (.seq (.block 1 (.seq (.region [0, 2, 3] [⟨(some 14), .mv (.t 0), none⟩,
    ⟨(some 15), .nilCheck (.t 14), none⟩,
    ⟨(some 16), .fieldA 19 (.t 15), none⟩,
    ⟨(some 17), .load none (.t 16), none⟩,
    ⟨(some 18), .mv (.t 2), none⟩,
    ⟨(some 19), .idxA 3 (.t 17) (.t 18), none⟩,
    ⟨(some 20), .load (some 3) (.t 19), none⟩,
    ⟨(some 3), .alloc [(.slice none 0 0), (.slice none 0 0), (.int .i64 0)], none⟩,
    ⟨none, .store 3 (.t 3) (.t 20), none⟩])
  (.seq (.region [0, 2, 3, 4] [⟨(some 4), .mv (.c (.int .i64 0)), none⟩])
  (.block 2 (.loop [0, 2, 3, 4] x16L1)))))
  (.region [0, 2] [⟨(some 12), .mv (.t 2), none⟩,
    ⟨(some 13), .bin .add (.t 12) (.c (.int .i64 1)), none⟩,
    ⟨(some 2), .mv (.t 13), none⟩])))
/-- (*gearbox/gearboxlaw01.Book).fillBlock · 1 parameters, 0 captured -/
def x16 : XFun := ⟨[],
  (.seq (.region [0, 2] [⟨(some 2), .mv (.c (.int .i64 0)), none⟩])
  (.block 0 (.loop [0, 2] x16L2)))⟩

def x31L1 : XCode :=
  (.seq (.seq (.region [0, 2, 3, 4, 25] [⟨(some 21), .mv (.t 4), none⟩,
    ⟨(some 22), .fieldA 0 (.t 3), none⟩,
    ⟨(some 23), .load none (.t 22), none⟩,
    ⟨(some 24), .len (.t 23), none⟩,
    ⟨(some 25), .bin .lss (.t 21) (.t 24), none⟩])
  (.cond (.t 25)
    .skip
    (.exit 2)))
  (.seq (.block 3 (.region [0, 2, 3, 4] [⟨(some 28), .fieldA 0 (.t 3), none⟩,
    ⟨(some 29), .load none (.t 28), none⟩,
    ⟨(some 30), .mv (.t 4), none⟩,
    ⟨(some 31), .fieldA 2 (.t 3), none⟩,
    ⟨(some 32), .load none (.t 31), none⟩,
    ⟨(some 33), .call .view 417 [(.t 32)], none⟩,
    ⟨(some 34), .idxA 2 (.t 29) (.t 30), none⟩,
    ⟨none, .store 2 (.t 34) (.t 33), none⟩]))
  (.region [0, 2, 3, 4] [⟨(some 26), .mv (.t 4), none⟩,
    ⟨(some 27), .bin .add (.t 26) (.c (.int .i64 1)), none⟩,
    ⟨(some 4), .mv (.t 27), none⟩])))
def x31L2 : XCode :=
  (.seq (.seq (.region [0, 2, 11] [⟨(some 5), .mv (.t 2), none⟩,
    ⟨(some 6), .mv (.t 0), none⟩,
    ⟨(some 7), .nilCheck (.t 6), none⟩,
    ⟨(some 8), .fieldA 20 (.t 7), none⟩,
    ⟨(some 9), .load none (.t 8), none⟩,
    ⟨(some 10), .len (.t 9), none⟩,
    ⟨(some 11), .bin .lss (.t 5) (.t 10), none⟩])
  (.cond (.t 11)
    .skip
    (.exit 0)))
  (.seq (.block 1 (.seq (.region [0, 2, 3] [⟨(some 14), .mv (.t 0), none⟩,
    ⟨(some 15), .nilCheck (.t 14), none⟩,
    ⟨(some 16), .fieldA 20 (.t 15), none⟩,
    ⟨(some 17), .load none (.t 16), none⟩,
    ⟨(some 18), .mv (.t 2), none⟩,
    ⟨(some 19), .idxA 3 (.t 17) (.t 18), none⟩,
    ⟨(some 20), .load (some 3) (.t 19), none⟩,
    ⟨(some 3), .alloc [(.slice none 0 0), (.slice none 0 0), (.int .i64 0)], none⟩,
    ⟨none, .store 3 (.t 3) (.t 20), none⟩])
  (.seq (.region [0, 2, 3, 4] [⟨(some 4), .mv (.c (.int .i64 0)), none⟩])
  (.block 2 (.loop [0, 2, 3, 4] x31L1)))))
  (.region [0, 2] [⟨(some 12), .mv (.t 2), none⟩,
    ⟨(some 13), .bin .add (.t 12) (.c (.int .i64 1)), none⟩,
    ⟨(some 2), .mv (.t 13), none⟩])))
/-- (*gearbox/gearboxlaw01.Book).fillState · 1 parameters, 0 captured -/
def x31 : XFun := ⟨[],
  (.seq (.region [0, 2] [⟨(some 2), .mv (.c (.int .i64 0)), none⟩])
  (.block 0 (.loop [0, 2] x31L2)))⟩

def x45L1 : XCode :=
  (.seq (.seq (.region [0, 2, 3, 4, 5, 25] [⟨(some 24), .mv (.t 5), none⟩,
    ⟨(some 25), .bin .lss (.t 24) (.c (.int .i64 40)), none⟩])
  (.cond (.t 25)
    .skip
    (.exit 2)))
  (.seq (.block 3 (.region [0, 2, 3, 4, 5] [⟨(some 28), .mv (.t 4), none⟩,
    ⟨(some 29), .fieldA 2 (.t 3), none⟩,
    ⟨(some 30), .load none (.t 29), none⟩,
    ⟨(some 31), .call .view 411 [(.t 30)], none⟩,
    ⟨(some 32), .buildSlice 1 [(.int .i64 0)] 1 [(0, 1, (.t 31))], none⟩,
    ⟨(some 33), .append 1 8 (.t 28) (.t 32), none⟩,
    ⟨(some 4), .mv (.t 33), none⟩]))
  (.region [0, 2, 3, 4, 5] [⟨(some 26), .mv (.t 5), none⟩,
    ⟨(some 27), .bin .add (.t 26) (.c (.int .i64 1)), none⟩,
    ⟨(some 5), .mv (.t 27), none⟩])))
def x45L2 : XCode :=
  (.seq (.seq (.region [0, 2, 12] [⟨(some 6), .mv (.t 2), none⟩,
    ⟨(some 7), .mv (.t 0), none⟩,
    ⟨(some 8), .nilCheck (.t 7), none⟩,
    ⟨(some 9), .fieldA 1 (.t 8), none⟩,
    ⟨(some 10), .load none (.t 9), none⟩,
    ⟨(some 11), .len (.t 10), none⟩,
    ⟨(some 12), .bin .lss (.t 6) (.t 11), none⟩])
  (.cond (.t 12)
    .skip
    (.exit 0)))
  (.seq (.block 1 (.seq (.region [0, 2, 3] [⟨(some 15), .mv (.t 0), none⟩,
    ⟨(some 16), .nilCheck (.t 15), none⟩,
    ⟨(some 17), .fieldA 1 (.t 16), none⟩,
    ⟨(some 18), .load none (.t 17), none⟩,
    ⟨(some 19), .mv (.t 2), none⟩,
    ⟨(some 20), .idxA 3 (.t 18) (.t 19), none⟩,
    ⟨(some 21), .load (some 3) (.t 20), none⟩,
    ⟨(some 3), .alloc [(.slice none 0 0), (.slice none 0 0), (.int .i64 0)], none⟩,
    ⟨none, .store 3 (.t 3) (.t 21), none⟩])
  (.seq (.region [0, 2, 3, 4] [⟨(some 22), .fieldA 0 (.t 3), none⟩,
    ⟨(some 23), .load none (.t 22), none⟩,
    ⟨(some 4), .mv (.t 23), none⟩])
  (.seq (.seq (.region [0, 2, 3, 4, 5] [⟨(some 5), .mv (.c (.int .i64 0)), none⟩])
  (.block 2 (.loop [0, 2, 3, 4, 5] x45L1)))
  (.region [0, 2] [⟨(some 34), .mv (.t 0), none⟩,
    ⟨(some 35), .nilCheck (.t 34), none⟩,
    ⟨(some 36), .fieldA 1 (.t 35), none⟩,
    ⟨(some 37), .load none (.t 36), none⟩,
    ⟨(some 38), .mv (.t 2), none⟩,
    ⟨(some 39), .mv (.t 4), none⟩,
    ⟨(some 40), .idxA 3 (.t 37) (.t 38), none⟩,
    ⟨(some 41), .fieldA 1 (.t 40), none⟩,
    ⟨none, .store 1 (.t 41) (.t 39), none⟩])))))
  (.region [0, 2] [⟨(some 13), .mv (.t 2), none⟩,
    ⟨(some 14), .bin .add (.t 13) (.c (.int .i64 1)), none⟩,
    ⟨(some 2), .mv (.t 14), none⟩])))
/-- (*gearbox/gearboxlaw01.Book).growInt · 1 parameters, 0 captured -/
def x45 : XFun := ⟨[],
  (.seq (.region [0, 2] [⟨(some 2), .mv (.c (.int .i64 0)), none⟩])
  (.block 0 (.loop [0, 2] x45L2)))⟩

def x49L1 : XCode :=
  (.seq (.seq (.region [0, 2, 3, 4, 5, 25] [⟨(some 24), .mv (.t 5), none⟩,
    ⟨(some 25), .bin .lss (.t 24) (.c (.int .i64 40)), none⟩])
  (.cond (.t 25)
    .skip
    (.exit 2)))
  (.seq (.block 3 (.region [0, 2, 3, 4, 5] [⟨(some 28), .mv (.t 4), none⟩,
    ⟨(some 29), .fieldA 2 (.t 3), none⟩,
    ⟨(some 30), .load none (.t 29), none⟩,
    ⟨(some 31), .call .view 415 [(.t 30)], none⟩,
    ⟨(some 32), .buildSlice 1 [(.int .i64 0)] 1 [(0, 1, (.t 31))], none⟩,
    ⟨(some 33), .append 1 8 (.t 28) (.t 32), none⟩,
    ⟨(some 4), .mv (.t 33), none⟩]))
  (.region [0, 2, 3, 4, 5] [⟨(some 26), .mv (.t 5), none⟩,
    ⟨(some 27), .bin .add (.t 26) (.c (.int .i64 1)), none⟩,
    ⟨(some 5), .mv (.t 27), none⟩])))
def x49L2 : XCode :=
  (.seq (.seq (.region [0, 2, 12] [⟨(some 6), .mv (.t 2), none⟩,
    ⟨(some 7), .mv (.t 0), none⟩,
    ⟨(some 8), .nilCheck (.t 7), none⟩,
    ⟨(some 9), .fieldA 2 (.t 8), none⟩,
    ⟨(some 10), .load none (.t 9), none⟩,
    ⟨(some 11), .len (.t 10), none⟩,
    ⟨(some 12), .bin .lss (.t 6) (.t 11), none⟩])
  (.cond (.t 12)
    .skip
    (.exit 0)))
  (.seq (.block 1 (.seq (.region [0, 2, 3] [⟨(some 15), .mv (.t 0), none⟩,
    ⟨(some 16), .nilCheck (.t 15), none⟩,
    ⟨(some 17), .fieldA 2 (.t 16), none⟩,
    ⟨(some 18), .load none (.t 17), none⟩,
    ⟨(some 19), .mv (.t 2), none⟩,
    ⟨(some 20), .idxA 3 (.t 18) (.t 19), none⟩,
    ⟨(some 21), .load (some 3) (.t 20), none⟩,
    ⟨(some 3), .alloc [(.slice none 0 0), (.slice none 0 0), (.int .i64 0)], none⟩,
    ⟨none, .store 3 (.t 3) (.t 21), none⟩])
  (.seq (.region [0, 2, 3, 4] [⟨(some 22), .fieldA 0 (.t 3), none⟩,
    ⟨(some 23), .load none (.t 22), none⟩,
    ⟨(some 4), .mv (.t 23), none⟩])
  (.seq (.seq (.region [0, 2, 3, 4, 5] [⟨(some 5), .mv (.c (.int .i64 0)), none⟩])
  (.block 2 (.loop [0, 2, 3, 4, 5] x49L1)))
  (.region [0, 2] [⟨(some 34), .mv (.t 0), none⟩,
    ⟨(some 35), .nilCheck (.t 34), none⟩,
    ⟨(some 36), .fieldA 2 (.t 35), none⟩,
    ⟨(some 37), .load none (.t 36), none⟩,
    ⟨(some 38), .mv (.t 2), none⟩,
    ⟨(some 39), .mv (.t 4), none⟩,
    ⟨(some 40), .idxA 3 (.t 37) (.t 38), none⟩,
    ⟨(some 41), .fieldA 1 (.t 40), none⟩,
    ⟨none, .store 1 (.t 41) (.t 39), none⟩])))))
  (.region [0, 2] [⟨(some 13), .mv (.t 2), none⟩,
    ⟨(some 14), .bin .add (.t 13) (.c (.int .i64 1)), none⟩,
    ⟨(some 2), .mv (.t 14), none⟩])))
/-- (*gearbox/gearboxlaw01.Book).growPlace · 1 parameters, 0 captured -/
def x49 : XFun := ⟨[],
  (.seq (.region [0, 2] [⟨(some 2), .mv (.c (.int .i64 0)), none⟩])
  (.block 0 (.loop [0, 2] x49L2)))⟩

def x53L1 : XCode :=
  (.seq (.seq (.region [0, 2, 3, 4, 5, 25] [⟨(some 24), .mv (.t 5), none⟩,
    ⟨(some 25), .bin .lss (.t 24) (.c (.int .i64 40)), none⟩])
  (.cond (.t 25)
    .skip
    (.exit 2)))
  (.seq (.block 3 (.region [0, 2, 3, 4, 5] [⟨(some 28), .mv (.t 4), none⟩,
    ⟨(some 29), .fieldA 2 (.t 3), none⟩,
    ⟨(some 30), .load none (.t 29), none⟩,
    ⟨(some 31), .call .view 419 [(.t 30)], none⟩,
    ⟨(some 32), .buildSlice 1 [(.string .empty)] 1 [(0, 1, (.t 31))], none⟩,
    ⟨(some 33), .append 1 16 (.t 28) (.t 32), none⟩,
    ⟨(some 4), .mv (.t 33), none⟩]))
  (.region [0, 2, 3, 4, 5] [⟨(some 26), .mv (.t 5), none⟩,
    ⟨(some 27), .bin .add (.t 26) (.c (.int .i64 1)), none⟩,
    ⟨(some 5), .mv (.t 27), none⟩])))
def x53L2 : XCode :=
  (.seq (.seq (.region [0, 2, 12] [⟨(some 6), .mv (.t 2), none⟩,
    ⟨(some 7), .mv (.t 0), none⟩,
    ⟨(some 8), .nilCheck (.t 7), none⟩,
    ⟨(some 9), .fieldA 3 (.t 8), none⟩,
    ⟨(some 10), .load none (.t 9), none⟩,
    ⟨(some 11), .len (.t 10), none⟩,
    ⟨(some 12), .bin .lss (.t 6) (.t 11), none⟩])
  (.cond (.t 12)
    .skip
    (.exit 0)))
  (.seq (.block 1 (.seq (.region [0, 2, 3] [⟨(some 15), .mv (.t 0), none⟩,
    ⟨(some 16), .nilCheck (.t 15), none⟩,
    ⟨(some 17), .fieldA 3 (.t 16), none⟩,
    ⟨(some 18), .load none (.t 17), none⟩,
    ⟨(some 19), .mv (.t 2), none⟩,
    ⟨(some 20), .idxA 3 (.t 18) (.t 19), none⟩,
    ⟨(some 21), .load (some 3) (.t 20), none⟩,
    ⟨(some 3), .alloc [(.slice none 0 0), (.slice none 0 0), (.int .i64 0)], none⟩,
    ⟨none, .store 3 (.t 3) (.t 21), none⟩])
  (.seq (.region [0, 2, 3, 4] [⟨(some 22), .fieldA 0 (.t 3), none⟩,
    ⟨(some 23), .load none (.t 22), none⟩,
    ⟨(some 4), .mv (.t 23), none⟩])
  (.seq (.seq (.region [0, 2, 3, 4, 5] [⟨(some 5), .mv (.c (.int .i64 0)), none⟩])
  (.block 2 (.loop [0, 2, 3, 4, 5] x53L1)))
  (.region [0, 2] [⟨(some 34), .mv (.t 0), none⟩,
    ⟨(some 35), .nilCheck (.t 34), none⟩,
    ⟨(some 36), .fieldA 3 (.t 35), none⟩,
    ⟨(some 37), .load none (.t 36), none⟩,
    ⟨(some 38), .mv (.t 2), none⟩,
    ⟨(some 39), .mv (.t 4), none⟩,
    ⟨(some 40), .idxA 3 (.t 37) (.t 38), none⟩,
    ⟨(some 41), .fieldA 1 (.t 40), none⟩,
    ⟨none, .store 1 (.t 41) (.t 39), none⟩])))))
  (.region [0, 2] [⟨(some 13), .mv (.t 2), none⟩,
    ⟨(some 14), .bin .add (.t 13) (.c (.int .i64 1)), none⟩,
    ⟨(some 2), .mv (.t 14), none⟩])))
/-- (*gearbox/gearboxlaw01.Book).growText · 1 parameters, 0 captured -/
def x53 : XFun := ⟨[],
  (.seq (.region [0, 2] [⟨(some 2), .mv (.c (.int .i64 0)), none⟩])
  (.block 0 (.loop [0, 2] x53L2)))⟩

def x54L1 : XCode :=
  (.seq (.seq (.region [0, 2, 3, 4, 5, 25] [⟨(some 24), .mv (.t 5), none⟩,
    ⟨(some 25), .bin .lss (.t 24) (.c (.int .i64 40)), none⟩])
  (.cond (.t 25)
    .skip
    (.exit 2)))
  (.seq (.block 3 (.region [0, 2, 3, 4, 5] [⟨(some 28), .mv (.t 4), none⟩,
    ⟨(some 29), .fieldA 2 (.t 3), none⟩,
    ⟨(some 30), .load none (.t 29), none⟩,
    ⟨(some 31), .call .view 420 [(.t 30)], none⟩,
    ⟨(some 32), .buildSlice 2 [(.int .u8 0), (.int .i64 0)] 1 [(0, 2, (.t 31))], none⟩,
    ⟨(some 33), .append 2 16 (.t 28) (.t 32), none⟩,
    ⟨(some 4), .mv (.t 33), none⟩]))
  (.region [0, 2, 3, 4, 5] [⟨(some 26), .mv (.t 5), none⟩,
    ⟨(some 27), .bin .add (.t 26) (.c (.int .i64 1)), none⟩,
    ⟨(some 5), .mv (.t 27), none⟩])))
def x54L2 : XCode :=
  (.seq (.seq (.region [0, 2, 12] [⟨(some 6), .mv (.t 2), none⟩,
    ⟨(some 7), .mv (.t 0), none⟩,
    ⟨(some 8), .nilCheck (.t 7), none⟩,
    ⟨(some 9), .fieldA 4 (.t 8), none⟩,
    ⟨(some 10), .load none (.t 9), none⟩,
    ⟨(some 11), .len (.t 10), none⟩,
    ⟨(some 12), .bin .lss (.t 6) (.t 11), none⟩])
  (.cond (.t 12)
    .skip
    (.exit 0)))
  (.seq (.block 1 (.seq (.region [0, 2, 3] [⟨(some 15), .mv (.t 0), none⟩,
    ⟨(some 16), .nilCheck (.t 15), none⟩,
    ⟨(some 17), .fieldA 4 (.t 16), none⟩,
    ⟨(some 18), .load none (.t 17), none⟩,
    ⟨(some 19), .mv (.t 2), none⟩,
    ⟨(some 20), .idxA 3 (.t 18) (.t 19), none⟩,
    ⟨(some 21), .load (some 3) (.t 20), none⟩,
    ⟨(some 3), .alloc [(.slice none 0 0), (.slice none 0 0), (.int .i64 0)], none⟩,
    ⟨none, .store 3 (.t 3) (.t 21), none⟩])
  (.seq (.region [0, 2, 3, 4] [⟨(some 22), .fieldA 0 (.t 3), none⟩,
    ⟨(some 23), .load none (.t 22), none⟩,
    ⟨(some 4), .mv (.t 23), none⟩])
  (.seq (.seq (.region [0, 2, 3, 4, 5] [⟨(some 5), .mv (.c (.int .i64 0)), none⟩])
  (.block 2 (.loop [0, 2, 3, 4, 5] x54L1)))
  (.region [0, 2] [⟨(some 34), .mv (.t 0), none⟩,
    ⟨(some 35), .nilCheck (.t 34), none⟩,
    ⟨(some 36), .fieldA 4 (.t 35), none⟩,
    ⟨(some 37), .load none (.t 36), none⟩,
    ⟨(some 38), .mv (.t 2), none⟩,
    ⟨(some 39), .mv (.t 4), none⟩,
    ⟨(some 40), .idxA 3 (.t 37) (.t 38), none⟩,
    ⟨(some 41), .fieldA 1 (.t 40), none⟩,
    ⟨none, .store 1 (.t 41) (.t 39), none⟩])))))
  (.region [0, 2] [⟨(some 13), .mv (.t 2), none⟩,
    ⟨(some 14), .bin .add (.t 13) (.c (.int .i64 1)), none⟩,
    ⟨(some 2), .mv (.t 14), none⟩])))
/-- (*gearbox/gearboxlaw01.Book).growVal · 1 parameters, 0 captured -/
def x54 : XFun := ⟨[],
  (.seq (.region [0, 2] [⟨(some 2), .mv (.c (.int .i64 0)), none⟩])
  (.block 0 (.loop [0, 2] x54L2)))⟩

def x48L1 : XCode :=
  (.seq (.seq (.region [0, 2, 3, 4, 5, 25] [⟨(some 24), .mv (.t 5), none⟩,
    ⟨(some 25), .bin .lss (.t 24) (.c (.int .i64 40)), none⟩])
  (.cond (.t 25)
    .skip
    (.exit 2)))
  (.seq (.block 3 (.region [0, 2, 3, 4, 5] [⟨(some 28), .mv (.t 4), none⟩,
    ⟨(some 29), .fieldA 2 (.t 3), none⟩,
    ⟨(some 30), .load none (.t 29), none⟩,
    ⟨(some 31), .call .view 414 [(.t 30)], none⟩,
    ⟨(some 32), .buildSlice 5 [(.int .u8 0), (.string .empty), (.slice none 0 0), (.int .i64 0), (.int .i64 0)] 1 [(0, 5, (.t 31))], none⟩,
    ⟨(some 33), .append 5 64 (.t 28) (.t 32), none⟩,
    ⟨(some 4), .mv (.t 33), none⟩]))
  (.region [0, 2, 3, 4, 5] [⟨(some 26), .mv (.t 5), none⟩,
    ⟨(some 27), .bin .add (.t 26) (.c (.int .i64 1)), none⟩,
    ⟨(some 5), .mv (.t 27), none⟩])))
def x48L2 : XCode :=
  (.seq (.seq (.region [0, 2, 12] [⟨(some 6), .mv (.t 2), none⟩,
    ⟨(some 7), .mv (.t 0), none⟩,
    ⟨(some 8), .nilCheck (.t 7), none⟩,
    ⟨(some 9), .fieldA 5 (.t 8), none⟩,
    ⟨(some 10), .load none (.t 9), none⟩,
    ⟨(some 11), .len (.t 10), none⟩,
    ⟨(some 12), .bin .lss (.t 6) (.t 11), none⟩])
  (.cond (.t 12)
    .skip
    (.exit 0)))
  (.seq (.block 1 (.seq (.region [0, 2, 3] [⟨(some 15), .mv (.t 0), none⟩,
    ⟨(some 16), .nilCheck (.t 15), none⟩,
    ⟨(some 17), .fieldA 5 (.t 16), none⟩,
    ⟨(some 18), .load none (.t 17), none⟩,
    ⟨(some 19), .mv (.t 2), none⟩,
    ⟨(some 20), .idxA 3 (.t 18) (.t 19), none⟩,
    ⟨(some 21), .load (some 3) (.t 20), none⟩,
    ⟨(some 3), .alloc [(.slice none 0 0), (.slice none 0 0), (.int .i64 0)], none⟩,
    ⟨none, .store 3 (.t 3) (.t 21), none⟩])
  (.seq (.region [0, 2, 3, 4] [⟨(some 22), .fieldA 0 (.t 3), none⟩,
    ⟨(some 23), .load none (.t 22), none⟩,
    ⟨(some 4), .mv (.t 23), none⟩])
  (.seq (.seq (.region [0, 2, 3, 4, 5] [⟨(some 5), .mv (.c (.int .i64 0)), none⟩])
  (.block 2 (.loop [0, 2, 3, 4, 5] x48L1)))
  (.region [0, 2] [⟨(some 34), .mv (.t 0), none⟩,
    ⟨(some 35), .nilCheck (.t 34), none⟩,
    ⟨(some 36), .fieldA 5 (.t 35), none⟩,
    ⟨(some 37), .load none (.t 36), none⟩,
    ⟨(some 38), .mv (.t 2), none⟩,
    ⟨(some 39), .mv (.t 4), none⟩,
    ⟨(some 40), .idxA 3 (.t 37) (.t 38), none⟩,
    ⟨(some 41), .fieldA 1 (.t 40), none⟩,
    ⟨none, .store 1 (.t 41) (.t 39), none⟩])))))
  (.region [0, 2] [⟨(some 13), .mv (.t 2), none⟩,
    ⟨(some 14), .bin .add (.t 13) (.c (.int .i64 1)), none⟩,
    ⟨(some 2), .mv (.t 14), none⟩])))
/-- (*gearbox/gearboxlaw01.Book).growObj · 1 parameters, 0 captured -/
def x48 : XFun := ⟨[],
  (.seq (.region [0, 2] [⟨(some 2), .mv (.c (.int .i64 0)), none⟩])
  (.block 0 (.loop [0, 2] x48L2)))⟩

def x44L1 : XCode :=
  (.seq (.seq (.region [0, 2, 3, 4, 5, 25] [⟨(some 24), .mv (.t 5), none⟩,
    ⟨(some 25), .bin .lss (.t 24) (.c (.int .i64 40)), none⟩])
  (.cond (.t 25)
    .skip
    (.exit 2)))
  (.seq (.block 3 (.region [0, 2, 3, 4, 5] [⟨(some 28), .mv (.t 4), none⟩,
    ⟨(some 29), .fieldA 2 (.t 3), none⟩,
    ⟨(some 30), .load none (.t 29), none⟩,
    ⟨(some 31), .call .view 410 [(.t 30)], none⟩,
    ⟨(some 32), .buildSlice 2 [(.int .u8 0), (.int .i64 0)] 1 [(0, 2, (.t 31))], none⟩,
    ⟨(some 33), .append 2 16 (.t 28) (.t 32), none⟩,
    ⟨(some 4), .mv (.t 33), none⟩]))
  (.region [0, 2, 3, 4, 5] [⟨(some 26), .mv (.t 5), none⟩,
    ⟨(some 27), .bin .add (.t 26) (.c (.int .i64 1)), none⟩,
    ⟨(some 5), .mv (.t 27), none⟩])))
def x44L2 : XCode :=
  (.seq (.seq (.region [0, 2, 12] [⟨(some 6), .mv (.t 2), none⟩,
    ⟨(some 7), .mv (.t 0), none⟩,
    ⟨(some 8), .nilCheck (.t 7), none⟩,
    ⟨(some 9), .fieldA 6 (.t 8), none⟩,
    ⟨(some 10), .load none (.t 9), none⟩,
    ⟨(some 11), .len (.t 10), none⟩,
    ⟨(some 12), .bin .lss (.t 6) (.t 11), none⟩])
  (.cond (.t 12)
    .skip
    (.exit 0)))
  (.seq (.block 1 (.seq (.region [0, 2, 3] [⟨(some 15), .mv (.t 0), none⟩,
    ⟨(some 16), .nilCheck (.t 15), none⟩,
    ⟨(some 17), .fieldA 6 (.t 16), none⟩,
    ⟨(some 18), .load none (.t 17), none⟩,
    ⟨(some 19), .mv (.t 2), none⟩,
    ⟨(some 20), .idxA 3 (.t 18) (.t 19), none⟩,
    ⟨(some 21), .load (some 3) (.t 20), none⟩,
    ⟨(some 3), .alloc [(.slice none 0 0), (.slice none 0 0), (.int .i64 0)], none⟩,
    ⟨none, .store 3 (.t 3) (.t 21), none⟩])
  (.seq (.region [0, 2, 3, 4] [⟨(some 22), .fieldA 0 (.t 3), none⟩,
    ⟨(some 23), .load none (.t 22), none⟩,
    ⟨(some 4), .mv (.t 23), none⟩])
  (.seq (.seq (.region [0, 2, 3, 4, 5] [⟨(some 5), .mv (.c (.int .i64 0)), none⟩])
  (.block 2 (.loop [0, 2, 3, 4, 5] x44L1)))
  (.region [0, 2] [⟨(some 34), .mv (.t 0), none⟩,
    ⟨(some 35), .nilCheck (.t 34), none⟩,
    ⟨(some 36), .fieldA 6 (.t 35), none⟩,
    ⟨(some 37), .load none (.t 36), none⟩,
    ⟨(some 38), .mv (.t 2), none⟩,
    ⟨(some 39), .mv (.t 4), none⟩,
    ⟨(some 40), .idxA 3 (.t 37) (.t 38), none⟩,
    ⟨(some 41), .fieldA 1 (.t 40), none⟩,
    ⟨none, .store 1 (.t 41) (.t 39), none⟩])))))
  (.region [0, 2] [⟨(some 13), .mv (.t 2), none⟩,
    ⟨(some 14), .bin .add (.t 13) (.c (.int .i64 1)), none⟩,
    ⟨(some 2), .mv (.t 14), none⟩])))
/-- (*gearbox/gearboxlaw01.Book).growIns · 1 parameters, 0 captured -/
def x44 : XFun := ⟨[],
  (.seq (.region [0, 2] [⟨(some 2), .mv (.c (.int .i64 0)), none⟩])
  (.block 0 (.loop [0, 2] x44L2)))⟩

def x38L1 : XCode :=
  (.seq (.seq (.region [0, 2, 3, 4, 5, 25] [⟨(some 24), .mv (.t 5), none⟩,
    ⟨(some 25), .bin .lss (.t 24) (.c (.int .i64 40)), none⟩])
  (.cond (.t 25)
    .skip
    (.exit 2)))
  (.seq (.block 3 (.region [0, 2, 3, 4, 5] [⟨(some 28), .mv (.t 4), none⟩,
    ⟨(some 29), .fieldA 2 (.t 3), none⟩,
    ⟨(some 30), .load none (.t 29), none⟩,
    ⟨(some 31), .call .view 404 [(.t 30)], none⟩,
    ⟨(some 32), .buildSlice 3 [(.int .u8 0), (.int .i64 0), (.string .empty)] 1 [(0, 3, (.t 31))], none⟩,
    ⟨(some 33), .append 3 32 (.t 28) (.t 32), none⟩,
    ⟨(some 4), .mv (.t 33), none⟩]))
  (.region [0, 2, 3, 4, 5] [⟨(some 26), .mv (.t 5), none⟩,
    ⟨(some 27), .bin .add (.t 26) (.c (.int .i64 1)), none⟩,
    ⟨(some 5), .mv (.t 27), none⟩])))
def x38L2 : XCode :=
  (.seq (.seq (.region [0, 2, 12] [⟨(some 6), .mv (.t 2), none⟩,
    ⟨(some 7), .mv (.t 0), none⟩,
    ⟨(some 8), .nilCheck (.t 7), none⟩,
    ⟨(some 9), .fieldA 7 (.t 8), none⟩,
    ⟨(some 10), .load none (.t 9), none⟩,
    ⟨(some 11), .len (.t 10), none⟩,
    ⟨(some 12), .bin .lss (.t 6) (.t 11), none⟩])
  (.cond (.t 12)
    .skip
    (.exit 0)))
  (.seq (.block 1 (.seq (.region [0, 2, 3] [⟨(some 15), .mv (.t 0), none⟩,
    ⟨(some 16), .nilCheck (.t 15), none⟩,
    ⟨(some 17), .fieldA 7 (.t 16), none⟩,
    ⟨(some 18), .load none (.t 17), none⟩,
    ⟨(some 19), .mv (.t 2), none⟩,
    ⟨(some 20), .idxA 3 (.t 18) (.t 19), none⟩,
    ⟨(some 21), .load (some 3) (.t 20), none⟩,
    ⟨(some 3), .alloc [(.slice none 0 0), (.slice none 0 0), (.int .i64 0)], none⟩,
    ⟨none, .store 3 (.t 3) (.t 21), none⟩])
  (.seq (.region [0, 2, 3, 4] [⟨(some 22), .fieldA 0 (.t 3), none⟩,
    ⟨(some 23), .load none (.t 22), none⟩,
    ⟨(some 4), .mv (.t 23), none⟩])
  (.seq (.seq (.region [0, 2, 3, 4, 5] [⟨(some 5), .mv (.c (.int .i64 0)), none⟩])
  (.block 2 (.loop [0, 2, 3, 4, 5] x38L1)))
  (.region [0, 2] [⟨(some 34), .mv (.t 0), none⟩,
    ⟨(some 35), .nilCheck (.t 34), none⟩,
    ⟨(some 36), .fieldA 7 (.t 35), none⟩,
    ⟨(some 37), .load none (.t 36), none⟩,
    ⟨(some 38), .mv (.t 2), none⟩,
    ⟨(some 39), .mv (.t 4), none⟩,
    ⟨(some 40), .idxA 3 (.t 37) (.t 38), none⟩,
    ⟨(some 41), .fieldA 1 (.t 40), none⟩,
    ⟨none, .store 1 (.t 41) (.t 39), none⟩])))))
  (.region [0, 2] [⟨(some 13), .mv (.t 2), none⟩,
    ⟨(some 14), .bin .add (.t 13) (.c (.int .i64 1)), none⟩,
    ⟨(some 2), .mv (.t 14), none⟩])))
/-- (*gearbox/gearboxlaw01.Book).growConst · 1 parameters, 0 captured -/
def x38 : XFun := ⟨[],
  (.seq (.region [0, 2] [⟨(some 2), .mv (.c (.int .i64 0)), none⟩])
  (.block 0 (.loop [0, 2] x38L2)))⟩

def x37L1 : XCode :=
  (.seq (.seq (.region [0, 2, 3, 4, 5, 25] [⟨(some 24), .mv (.t 5), none⟩,
    ⟨(some 25), .bin .lss (.t 24) (.c (.int .i64 40)), none⟩])
  (.cond (.t 25)
    .skip
    (.exit 2)))
  (.seq (.block 3 (.region [0, 2, 3, 4, 5] [⟨(some 28), .mv (.t 4), none⟩,
    ⟨(some 29), .fieldA 2 (.t 3), none⟩,
    ⟨(some 30), .load none (.t 29), none⟩,
    ⟨(some 31), .call .view 403 [(.t 30)], none⟩,
    ⟨(some 32), .buildSlice 2 [(.bool false), (.int .i64 0)] 1 [(0, 2, (.t 31))], none⟩,
    ⟨(some 33), .append 2 16 (.t 28) (.t 32), none⟩,
    ⟨(some 4), .mv (.t 33), none⟩]))
  (.region [0, 2, 3, 4, 5] [⟨(some 26), .mv (.t 5), none⟩,
    ⟨(some 27), .bin .add (.t 26) (.c (.int .i64 1)), none⟩,
    ⟨(some 5), .mv (.t 27), none⟩])))
def x37L2 : XCode :=
  (.seq (.seq (.region [0, 2, 12] [⟨(some 6), .mv (.t 2), none⟩,
    ⟨(some 7), .mv (.t 0), none⟩,
    ⟨(some 8), .nilCheck (.t 7), none⟩,
    ⟨(some 9), .fieldA 8 (.t 8), none⟩,
    ⟨(some 10), .load none (.t 9), none⟩,
    ⟨(some 11), .len (.t 10), none⟩,
    ⟨(some 12), .bin .lss (.t 6) (.t 11), none⟩])
  (.cond (.t 12)
    .skip
    (.exit 0)))
  (.seq (.block 1 (.seq (.region [0, 2, 3] [⟨(some 15), .mv (.t 0), none⟩,
    ⟨(some 16), .nilCheck (.t 15), none⟩,
    ⟨(some 17), .fieldA 8 (.t 16), none⟩,
    ⟨(some 18), .load none (.t 17), none⟩,
    ⟨(some 19), .mv (.t 2), none⟩,
    ⟨(some 20), .idxA 3 (.t 18) (.t 19), none⟩,
    ⟨(some 21), .load (some 3) (.t 20), none⟩,
    ⟨(some 3), .alloc [(.slice none 0 0), (.slice none 0 0), (.int .i64 0)], none⟩,
    ⟨none, .store 3 (.t 3) (.t 21), none⟩])
  (.seq (.region [0, 2, 3, 4] [⟨(some 22), .fieldA 0 (.t 3), none⟩,
    ⟨(some 23), .load none (.t 22), none⟩,
    ⟨(some 4), .mv (.t 23), none⟩])
  (.seq (.seq (.region [0, 2, 3, 4, 5] [⟨(some 5), .mv (.c (.int .i64 0)), none⟩])
  (.block 2 (.loop [0, 2, 3, 4, 5] x37L1)))
  (.region [0, 2] [⟨(some 34), .mv (.t 0), none⟩,
    ⟨(some 35), .nilCheck (.t 34), none⟩,
    ⟨(some 36), .fieldA 8 (.t 35), none⟩,
    ⟨(some 37), .load none (.t 36), none⟩,
    ⟨(some 38), .mv (.t 2), none⟩,
    ⟨(some 39), .mv (.t 4), none⟩,
    ⟨(some 40), .idxA 3 (.t 37) (.t 38), none⟩,
    ⟨(some 41), .fieldA 1 (.t 40), none⟩,
    ⟨none, .store 1 (.t 41) (.t 39), none⟩])))))
  (.region [0, 2] [⟨(some 13), .mv (.t 2), none⟩,
    ⟨(some 14), .bin .add (.t 13) (.c (.int .i64 1)), none⟩,
    ⟨(some 2), .mv (.t 14), none⟩])))
/-- (*gearbox/gearboxlaw01.Book).growCap · 1 parameters, 0 captured -/
def x37 : XFun := ⟨[],
  (.seq (.region [0, 2] [⟨(some 2), .mv (.c (.int .i64 0)), none⟩])
  (.block 0 (.loop [0, 2] x37L2)))⟩

def x43L1 : XCode :=
  (.seq (.seq (.region [0, 2, 3, 4, 5, 25] [⟨(some 24), .mv (.t 5), none⟩,
    ⟨(some 25), .bin .lss (.t 24) (.c (.int .i64 40)), none⟩])
  (.cond (.t 25)
    .skip
    (.exit 2)))
  (.seq (.block 3 (.region [0, 2, 3, 4, 5] [⟨(some 28), .mv (.t 4), none⟩,
    ⟨(some 29), .fieldA 2 (.t 3), none⟩,
    ⟨(some 30), .load none (.t 29), none⟩,
    ⟨(some 31), .call .view 409 [(.t 30)], none⟩,
    ⟨(some 32), .buildSlice 4 [(.int .i64 0), (.int .i64 0), (.int .i64 0), (.int .i64 0)] 1 [(0, 4, (.t 31))], none⟩,
    ⟨(some 33), .append 4 32 (.t 28) (.t 32), none⟩,
    ⟨(some 4), .mv (.t 33), none⟩]))
  (.region [0, 2, 3, 4, 5] [⟨(some 26), .mv (.t 5), none⟩,
    ⟨(some 27), .bin .add (.t 26) (.c (.int .i64 1)), none⟩,
    ⟨(some 5), .mv (.t 27), none⟩])))
def x43L2 : XCode :=
  (.seq (.seq (.region [0, 2, 12] [⟨(some 6), .mv (.t 2), none⟩,
    ⟨(some 7), .mv (.t 0), none⟩,
    ⟨(some 8), .nilCheck (.t 7), none⟩,
    ⟨(some 9), .fieldA 9 (.t 8), none⟩,
    ⟨(some 10), .load none (.t 9), none⟩,
    ⟨(some 11), .len (.t 10), none⟩,
    ⟨(some 12), .bin .lss (.t 6) (.t 11), none⟩])
  (.cond (.t 12)
    .skip
    (.exit 0)))
  (.seq (.block 1 (.seq (.region [0, 2, 3] [⟨(some 15), .mv (.t 0), none⟩,
    ⟨(some 16), .nilCheck (.t 15), none⟩,
    ⟨(some 17), .fieldA 9 (.t 16), none⟩,
    ⟨(some 18), .load none (.t 17), none⟩,
    ⟨(some 19), .mv (.t 2), none⟩,
    ⟨(some 20), .idxA 3 (.t 18) (.t 19), none⟩,
    ⟨(some 21), .load (some 3) (.t 20), none⟩,
    ⟨(some 3), .alloc [(.slice none 0 0), (.slice none 0 0), (.int .i64 0)], none⟩,
    ⟨none, .store 3 (.t 3) (.t 21), none⟩])
  (.seq (.region [0, 2, 3, 4] [⟨(some 22), .fieldA 0 (.t 3), none⟩,
    ⟨(some 23), .load none (.t 22), none⟩,
    ⟨(some 4), .mv (.t 23), none⟩])
  (.seq (.seq (.region [0, 2, 3, 4, 5] [⟨(some 5), .mv (.c (.int .i64 0)), none⟩])
  (.block 2 (.loop [0, 2, 3, 4, 5] x43L1)))
  (.region [0, 2] [⟨(some 34), .mv (.t 0), none⟩,
    ⟨(some 35), .nilCheck (.t 34), none⟩,
    ⟨(some 36), .fieldA 9 (.t 35), none⟩,
    ⟨(some 37), .load none (.t 36), none⟩,
    ⟨(some 38), .mv (.t 2), none⟩,
    ⟨(some 39), .mv (.t 4), none⟩,
    ⟨(some 40), .idxA 3 (.t 37) (.t 38), none⟩,
    ⟨(some 41), .fieldA 1 (.t 40), none⟩,
    ⟨none, .store 1 (.t 41) (.t 39), none⟩])))))
  (.region [0, 2] [⟨(some 13), .mv (.t 2), none⟩,
    ⟨(some 14), .bin .add (.t 13) (.c (.int .i64 1)), none⟩,
    ⟨(some 2), .mv (.t 14), none⟩])))
/-- (*gearbox/gearboxlaw01.Book).growHandler · 1 parameters, 0 captured -/
def x43 : XFun := ⟨[],
  (.seq (.region [0, 2] [⟨(some 2), .mv (.c (.int .i64 0)), none⟩])
  (.block 0 (.loop [0, 2] x43L2)))⟩

def x42L1 : XCode :=
  (.seq (.seq (.region [0, 2, 3, 4, 5, 25] [⟨(some 24), .mv (.t 5), none⟩,
    ⟨(some 25), .bin .lss (.t 24) (.c (.int .i64 40)), none⟩])
  (.cond (.t 25)
    .skip
    (.exit 2)))
  (.seq (.block 3 (.region [0, 2, 3, 4, 5] [⟨(some 28), .mv (.t 4), none⟩,
    ⟨(some 29), .fieldA 2 (.t 3), none⟩,
    ⟨(some 30), .load none (.t 29), none⟩,
    ⟨(some 31), .call .view 408 [(.t 30)], none⟩,
    ⟨(some 32), .buildSlice 8 [(.string .empty), (.int .i64 0), (.int .i64 0), (.slice none 0 0), (.slice none 0 0), (.slice none 0 0), (.slice none 0 0), (.slice none 0 0)] 1 [(0, 8, (.t 31))], none⟩,
    ⟨(some 33), .append 8 152 (.t 28) (.t 32), none⟩,
    ⟨(some 4), .mv (.t 33), none⟩]))
  (.region [0, 2, 3, 4, 5] [⟨(some 26), .mv (.t 5), none⟩,
    ⟨(some 27), .bin .add (.t 26) (.c (.int .i64 1)), none⟩,
    ⟨(some 5), .mv (.t 27), none⟩])))
def x42L2 : XCode :=
  (.seq (.seq (.region [0, 2, 12] [⟨(some 6), .mv (.t 2), none⟩,
    ⟨(some 7), .mv (.t 0), none⟩,
    ⟨(some 8), .nilCheck (.t 7), none⟩,
    ⟨(some 9), .fieldA 10 (.t 8), none⟩,
    ⟨(some 10), .load none (.t 9), none⟩,
    ⟨(some 11), .len (.t 10), none⟩,
    ⟨(some 12), .bin .lss (.t 6) (.t 11), none⟩])
  (.cond (.t 12)
    .skip
    (.exit 0)))
  (.seq (.block 1 (.seq (.region [0, 2, 3] [⟨(some 15), .mv (.t 0), none⟩,
    ⟨(some 16), .nilCheck (.t 15), none⟩,
    ⟨(some 17), .fieldA 10 (.t 16), none⟩,
    ⟨(some 18), .load none (.t 17), none⟩,
    ⟨(some 19), .mv (.t 2), none⟩,
    ⟨(some 20), .idxA 3 (.t 18) (.t 19), none⟩,
    ⟨(some 21), .load (some 3) (.t 20), none⟩,
    ⟨(some 3), .alloc [(.slice none 0 0), (.slice none 0 0), (.int .i64 0)], none⟩,
    ⟨none, .store 3 (.t 3) (.t 21), none⟩])
  (.seq (.region [0, 2, 3, 4] [⟨(some 22), .fieldA 0 (.t 3), none⟩,
    ⟨(some 23), .load none (.t 22), none⟩,
    ⟨(some 4), .mv (.t 23), none⟩])
  (.seq (.seq (.region [0, 2, 3, 4, 5] [⟨(some 5), .mv (.c (.int .i64 0)), none⟩])
  (.block 2 (.loop [0, 2, 3, 4, 5] x42L1)))
  (.region [0, 2] [⟨(some 34), .mv (.t 0), none⟩,
    ⟨(some 35), .nilCheck (.t 34), none⟩,
    ⟨(some 36), .fieldA 10 (.t 35), none⟩,
    ⟨(some 37), .load none (.t 36), none⟩,
    ⟨(some 38), .mv (.t 2), none⟩,
    ⟨(some 39), .mv (.t 4), none⟩,
    ⟨(some 40), .idxA 3 (.t 37) (.t 38), none⟩,
    ⟨(some 41), .fieldA 1 (.t 40), none⟩,
    ⟨none, .store 1 (.t 41) (.t 39), none⟩])))))
  (.region [0, 2] [⟨(some 13), .mv (.t 2), none⟩,
    ⟨(some 14), .bin .add (.t 13) (.c (.int .i64 1)), none⟩,
    ⟨(some 2), .mv (.t 14), none⟩])))
/-- (*gearbox/gearboxlaw01.Book).growFn · 1 parameters, 0 captured -/
def x42 : XFun := ⟨[],
  (.seq (.region [0, 2] [⟨(some 2), .mv (.c (.int .i64 0)), none⟩])
  (.block 0 (.loop [0, 2] x42L2)))⟩

def x41L1 : XCode :=
  (.seq (.seq (.region [0, 2, 3, 4, 5, 25] [⟨(some 24), .mv (.t 5), none⟩,
    ⟨(some 25), .bin .lss (.t 24) (.c (.int .i64 40)), none⟩])
  (.cond (.t 25)
    .skip
    (.exit 2)))
  (.seq (.block 3 (.region [0, 2, 3, 4, 5] [⟨(some 28), .mv (.t 4), none⟩,
    ⟨(some 29), .fieldA 2 (.t 3), none⟩,
    ⟨(some 30), .load none (.t 29), none⟩,
    ⟨(some 31), .call .view 407 [(.t 30)], none⟩,
    ⟨(some 32), .buildSlice 7 [(.int .u8 0), (.int .i64 0), (.string .empty), (.slice none 0 0), (.slice none 0 0), (.slice none 0 0), (.int .i64 0)] 1 [(0, 7, (.t 31))], none⟩,
    ⟨(some 33), .append 7 112 (.t 28) (.t 32), none⟩,
    ⟨(some 4), .mv (.t 33), none⟩]))
  (.region [0, 2, 3, 4, 5] [⟨(some 26), .mv (.t 5), none⟩,
    ⟨(some 27), .bin .add (.t 26) (.c (.int .i64 1)), none⟩,
    ⟨(some 5), .mv (.t 27), none⟩])))
def x41L2 : XCode :=
  (.seq (.seq (.region [0, 2, 12] [⟨(some 6), .mv (.t 2), none⟩,
    ⟨(some 7), .mv (.t 0), none⟩,
    ⟨(some 8), .nilCheck (.t 7), none⟩,
    ⟨(some 9), .fieldA 11 (.t 8), none⟩,
    ⟨(some 10), .load none (.t 9), none⟩,
    ⟨(some 11), .len (.t 10), none⟩,
    ⟨(some 12), .bin .lss (.t 6) (.t 11), none⟩])
  (.cond (.t 12)
    .skip
    (.exit 0)))
  (.seq (.block 1 (.seq (.region [0, 2, 3] [⟨(some 15), .mv (.t 0), none⟩,
    ⟨(some 16), .nilCheck (.t 15), none⟩,
    ⟨(some 17), .fieldA 11 (.t 16), none⟩,
    ⟨(some 18), .load none (.t 17), none⟩,
    ⟨(some 19), .mv (.t 2), none⟩,
    ⟨(some 20), .idxA 3 (.t 18) (.t 19), none⟩,
    ⟨(some 21), .load (some 3) (.t 20), none⟩,
    ⟨(some 3), .alloc [(.slice none 0 0), (.slice none 0 0), (.int .i64 0)], none⟩,
    ⟨none, .store 3 (.t 3) (.t 21), none⟩])
  (.seq (.region [0, 2, 3, 4] [⟨(some 22), .fieldA 0 (.t 3), none⟩,
    ⟨(some 23), .load none (.t 22), none⟩,
    ⟨(some 4), .mv (.t 23), none⟩])
  (.seq (.seq (.region [0, 2, 3, 4, 5] [⟨(some 5), .mv (.c (.int .i64 0)), none⟩])
  (.block 2 (.loop [0, 2, 3, 4, 5] x41L1)))
  (.region [0, 2] [⟨(some 34), .mv (.t 0), none⟩,
    ⟨(some 35), .nilCheck (.t 34), none⟩,
    ⟨(some 36), .fieldA 11 (.t 35), none⟩,
    ⟨(some 37), .load none (.t 36), none⟩,
    ⟨(some 38), .mv (.t 2), none⟩,
    ⟨(some 39), .mv (.t 4), none⟩,
    ⟨(some 40), .idxA 3 (.t 37) (.t 38), none⟩,
    ⟨(some 41), .fieldA 1 (.t 40), none⟩,
    ⟨none, .store 1 (.t 41) (.t 39), none⟩])))))
  (.region [0, 2] [⟨(some 13), .mv (.t 2), none⟩,
    ⟨(some 14), .bin .add (.t 13) (.c (.int .i64 1)), none⟩,
    ⟨(some 2), .mv (.t 14), none⟩])))
/-- (*gearbox/gearboxlaw01.Book).growExpr · 1 parameters, 0 captured -/
def x41 : XFun := ⟨[],
  (.seq (.region [0, 2] [⟨(some 2), .mv (.c (.int .i64 0)), none⟩])
  (.block 0 (.loop [0, 2] x41L2)))⟩

def x52L1 : XCode :=
  (.seq (.seq (.region [0, 2, 3, 4, 5, 25] [⟨(some 24), .mv (.t 5), none⟩,
    ⟨(some 25), .bin .lss (.t 24) (.c (.int .i64 40)), none⟩])
  (.cond (.t 25)
    .skip
    (.exit 2)))
  (.seq (.block 3 (.region [0, 2, 3, 4, 5] [⟨(some 28), .mv (.t 4), none⟩,
    ⟨(some 29), .fieldA 2 (.t 3), none⟩,
    ⟨(some 30), .load none (.t 29), none⟩,
    ⟨(some 31), .call .view 418 [(.t 30)], none⟩,
    ⟨(some 32), .buildSlice 6 [(.int .u8 0), (.string .empty), (.slice none 0 0), (.slice none 0 0), (.slice none 0 0), (.int .i64 0)] 1 [(0, 6, (.t 31))], none⟩,
    ⟨(some 33), .append 6 104 (.t 28) (.t 32), none⟩,
    ⟨(some 4), .mv (.t 33), none⟩]))
  (.region [0, 2, 3, 4, 5] [⟨(some 26), .mv (.t 5), none⟩,
    ⟨(some 27), .bin .add (.t 26) (.c (.int .i64 1)), none⟩,
    ⟨(some 5), .mv (.t 27), none⟩])))
def x52L2 : XCode :=
  (.seq (.seq (.region [0, 2, 12] [⟨(some 6), .mv (.t 2), none⟩,
    ⟨(some 7), .mv (.t 0), none⟩,
    ⟨(some 8), .nilCheck (.t 7), none⟩,
    ⟨(some 9), .fieldA 12 (.t 8), none⟩,
    ⟨(some 10), .load none (.t 9), none⟩,
    ⟨(some 11), .len (.t 10), none⟩,
    ⟨(some 12), .bin .lss (.t 6) (.t 11), none⟩])
  (.cond (.t 12)
    .skip
    (.exit 0)))
  (.seq (.block 1 (.seq (.region [0, 2, 3] [⟨(some 15), .mv (.t 0), none⟩,
    ⟨(some 16), .nilCheck (.t 15), none⟩,
    ⟨(some 17), .fieldA 12 (.t 16), none⟩,
    ⟨(some 18), .load none (.t 17), none⟩,
    ⟨(some 19), .mv (.t 2), none⟩,
    ⟨(some 20), .idxA 3 (.t 18) (.t 19), none⟩,
    ⟨(some 21), .load (some 3) (.t 20), none⟩,
    ⟨(some 3), .alloc [(.slice none 0 0), (.slice none 0 0), (.int .i64 0)], none⟩,
    ⟨none, .store 3 (.t 3) (.t 21), none⟩])
  (.seq (.region [0, 2, 3, 4] [⟨(some 22), .fieldA 0 (.t 3), none⟩,
    ⟨(some 23), .load none (.t 22), none⟩,
    ⟨(some 4), .mv (.t 23), none⟩])
  (.seq (.seq (.region [0, 2, 3, 4, 5] [⟨(some 5), .mv (.c (.int .i64 0)), none⟩])
  (.block 2 (.loop [0, 2, 3, 4, 5] x52L1)))
  (.region [0, 2] [⟨(some 34), .mv (.t 0), none⟩,
    ⟨(some 35), .nilCheck (.t 34), none⟩,
    ⟨(some 36), .fieldA 12 (.t 35), none⟩,
    ⟨(some 37), .load none (.t 36), none⟩,
    ⟨(some 38), .mv (.t 2), none⟩,
    ⟨(some 39), .mv (.t 4), none⟩,
    ⟨(some 40), .idxA 3 (.t 37) (.t 38), none⟩,
    ⟨(some 41), .fieldA 1 (.t 40), none⟩,
    ⟨none, .store 1 (.t 41) (.t 39), none⟩])))))
  (.region [0, 2] [⟨(some 13), .mv (.t 2), none⟩,
    ⟨(some 14), .bin .add (.t 13) (.c (.int .i64 1)), none⟩,
    ⟨(some 2), .mv (.t 14), none⟩])))
/-- (*gearbox/gearboxlaw01.Book).growStmt · 1 parameters, 0 captured -/
def x52 : XFun := ⟨[],
  (.seq (.region [0, 2] [⟨(some 2), .mv (.c (.int .i64 0)), none⟩])
  (.block 0 (.loop [0, 2] x52L2)))⟩

def x55L1 : XCode :=
  (.seq (.seq (.region [0, 2, 3, 4, 5, 25] [⟨(some 24), .mv (.t 5), none⟩,
    ⟨(some 25), .bin .lss (.t 24) (.c (.int .i64 40)), none⟩])
  (.cond (.t 25)
    .skip
    (.exit 2)))
  (.seq (.block 3 (.region [0, 2, 3, 4, 5] [⟨(some 28), .mv (.t 4), none⟩,
    ⟨(some 29), .fieldA 2 (.t 3), none⟩,
    ⟨(some 30), .load none (.t 29), none⟩,
    ⟨(some 31), .call .view 421 [(.t 30)], none⟩,
    ⟨(some 32), .buildSlice 4 [(.int .u8 0), (.string .empty), (.int .i64 0), (.int .i64 0)] 1 [(0, 4, (.t 31))], none⟩,
    ⟨(some 33), .append 4 40 (.t 28) (.t 32), none⟩,
    ⟨(some 4), .mv (.t 33), none⟩]))
  (.region [0, 2, 3, 4, 5] [⟨(some 26), .mv (.t 5), none⟩,
    ⟨(some 27), .bin .add (.t 26) (.c (.int .i64 1)), none⟩,
    ⟨(some 5), .mv (.t 27), none⟩])))
def x55L2 : XCode :=
  (.seq (.seq (.region [0, 2, 12] [⟨(some 6), .mv (.t 2), none⟩,
    ⟨(some 7), .mv (.t 0), none⟩,
    ⟨(some 8), .nilCheck (.t 7), none⟩,
    ⟨(some 9), .fieldA 13 (.t 8), none⟩,
    ⟨(some 10), .load none (.t 9), none⟩,
    ⟨(some 11), .len (.t 10), none⟩,
    ⟨(some 12), .bin .lss (.t 6) (.t 11), none⟩])
  (.cond (.t 12)
    .skip
    (.exit 0)))
  (.seq (.block 1 (.seq (.region [0, 2, 3] [⟨(some 15), .mv (.t 0), none⟩,
    ⟨(some 16), .nilCheck (.t 15), none⟩,
    ⟨(some 17), .fieldA 13 (.t 16), none⟩,
    ⟨(some 18), .load none (.t 17), none⟩,
    ⟨(some 19), .mv (.t 2), none⟩,
    ⟨(some 20), .idxA 3 (.t 18) (.t 19), none⟩,
    ⟨(some 21), .load (some 3) (.t 20), none⟩,
    ⟨(some 3), .alloc [(.slice none 0 0), (.slice none 0 0), (.int .i64 0)], none⟩,
    ⟨none, .store 3 (.t 3) (.t 21), none⟩])
  (.seq (.region [0, 2, 3, 4] [⟨(some 22), .fieldA 0 (.t 3), none⟩,
    ⟨(some 23), .load none (.t 22), none⟩,
    ⟨(some 4), .mv (.t 23), none⟩])
  (.seq (.seq (.region [0, 2, 3, 4, 5] [⟨(some 5), .mv (.c (.int .i64 0)), none⟩])
  (.block 2 (.loop [0, 2, 3, 4, 5] x55L1)))
  (.region [0, 2] [⟨(some 34), .mv (.t 0), none⟩,
    ⟨(some 35), .nilCheck (.t 34), none⟩,
    ⟨(some 36), .fieldA 13 (.t 35), none⟩,
    ⟨(some 37), .load none (.t 36), none⟩,
    ⟨(some 38), .mv (.t 2), none⟩,
    ⟨(some 39), .mv (.t 4), none⟩,
    ⟨(some 40), .idxA 3 (.t 37) (.t 38), none⟩,
    ⟨(some 41), .fieldA 1 (.t 40), none⟩,
    ⟨none, .store 1 (.t 41) (.t 39), none⟩])))))
  (.region [0, 2] [⟨(some 13), .mv (.t 2), none⟩,
    ⟨(some 14), .bin .add (.t 13) (.c (.int .i64 1)), none⟩,
    ⟨(some 2), .mv (.t 14), none⟩])))
/-- (*gearbox/gearboxlaw01.Book).growWord · 1 parameters, 0 captured -/
def x55 : XFun := ⟨[],
  (.seq (.region [0, 2] [⟨(some 2), .mv (.c (.int .i64 0)), none⟩])
  (.block 0 (.loop [0, 2] x55L2)))⟩

def x50L1 : XCode :=
  (.seq (.seq (.region [0, 2, 3, 4, 5, 25] [⟨(some 24), .mv (.t 5), none⟩,
    ⟨(some 25), .bin .lss (.t 24) (.c (.int .i64 40)), none⟩])
  (.cond (.t 25)
    .skip
    (.exit 2)))
  (.seq (.block 3 (.region [0, 2, 3, 4, 5] [⟨(some 28), .mv (.t 4), none⟩,
    ⟨(some 29), .fieldA 2 (.t 3), none⟩,
    ⟨(some 30), .load none (.t 29), none⟩,
    ⟨(some 31), .call .view 416 [(.t 30)], none⟩,
    ⟨(some 32), .buildSlice 6 [(.int .u8 0), (.int .i64 0), (.slice none 0 0), (.int .i64 0), (.int .u8 0), (.int .i64 0)] 1 [(0, 6, (.t 31))], none⟩,
    ⟨(some 33), .append 6 64 (.t 28) (.t 32), none⟩,
    ⟨(some 4), .mv (.t 33), none⟩]))
  (.region [0, 2, 3, 4, 5] [⟨(some 26), .mv (.t 5), none⟩,
    ⟨(some 27), .bin .add (.t 26) (.c (.int .i64 1)), none⟩,
    ⟨(some 5), .mv (.t 27), none⟩])))
def x50L2 : XCode :=
  (.seq (.seq (.region [0, 2, 12] [⟨(some 6), .mv (.t 2), none⟩,
    ⟨(some 7), .mv (.t 0), none⟩,
    ⟨(some 8), .nilCheck (.t 7), none⟩,
    ⟨(some 9), .fieldA 14 (.t 8), none⟩,
    ⟨(some 10), .load none (.t 9), none⟩,
    ⟨(some 11), .len (.t 10), none⟩,
    ⟨(some 12), .bin .lss (.t 6) (.t 11), none⟩])
  (.cond (.t 12)
    .skip
    (.exit 0)))
  (.seq (.block 1 (.seq (.region [0, 2, 3] [⟨(some 15), .mv (.t 0), none⟩,
    ⟨(some 16), .nilCheck (.t 15), none⟩,
    ⟨(some 17), .fieldA 14 (.t 16), none⟩,
    ⟨(some 18), .load none (.t 17), none⟩,
    ⟨(some 19), .mv (.t 2), none⟩,
    ⟨(some 20), .idxA 3 (.t 18) (.t 19), none⟩,
    ⟨(some 21), .load (some 3) (.t 20), none⟩,
    ⟨(some 3), .alloc [(.slice none 0 0), (.slice none 0 0), (.int .i64 0)], none⟩,
    ⟨none, .store 3 (.t 3) (.t 21), none⟩])
  (.seq (.region [0, 2, 3, 4] [⟨(some 22), .fieldA 0 (.t 3), none⟩,
    ⟨(some 23), .load none (.t 22), none⟩,
    ⟨(some 4), .mv (.t 23), none⟩])
  (.seq (.seq (.region [0, 2, 3, 4, 5] [⟨(some 5), .mv (.c (.int .i64 0)), none⟩])
  (.block 2 (.loop [0, 2, 3, 4, 5] x50L1)))
  (.region [0, 2] [⟨(some 34), .mv (.t 0), none⟩,
    ⟨(some 35), .nilCheck (.t 34), none⟩,
    ⟨(some 36), .fieldA 14 (.t 35), none⟩,
    ⟨(some 37), .load none (.t 36), none⟩,
    ⟨(some 38), .mv (.t 2), none⟩,
    ⟨(some 39), .mv (.t 4), none⟩,
    ⟨(some 40), .idxA 3 (.t 37) (.t 38), none⟩,
    ⟨(some 41), .fieldA 1 (.t 40), none⟩,
    ⟨none, .store 1 (.t 41) (.t 39), none⟩])))))
  (.region [0, 2] [⟨(some 13), .mv (.t 2), none⟩,
    ⟨(some 14), .bin .add (.t 13) (.c (.int .i64 1)), none⟩,
    ⟨(some 2), .mv (.t 14), none⟩])))
/-- (*gearbox/gearboxlaw01.Book).growRegIns · 1 parameters, 0 captured -/
def x50 : XFun := ⟨[],
  (.seq (.region [0, 2] [⟨(some 2), .mv (.c (.int .i64 0)), none⟩])
  (.block 0 (.loop [0, 2] x50L2)))⟩

def x46L1 : XCode :=
  (.seq (.seq (.region [0, 2, 3, 4, 5, 25] [⟨(some 24), .mv (.t 5), none⟩,
    ⟨(some 25), .bin .lss (.t 24) (.c (.int .i64 40)), none⟩])
  (.cond (.t 25)
    .skip
    (.exit 2)))
  (.seq (.block 3 (.region [0, 2, 3, 4, 5] [⟨(some 28), .mv (.t 4), none⟩,
    ⟨(some 29), .fieldA 2 (.t 3), none⟩,
    ⟨(some 30), .load none (.t 29), none⟩,
    ⟨(some 31), .call .view 412 [(.t 30)], none⟩,
    ⟨(some 32), .buildSlice 3 [(.int .i64 0), (.int .u8 0), (.int .i64 0)] 1 [(0, 3, (.t 31))], none⟩,
    ⟨(some 33), .append 3 24 (.t 28) (.t 32), none⟩,
    ⟨(some 4), .mv (.t 33), none⟩]))
  (.region [0, 2, 3, 4, 5] [⟨(some 26), .mv (.t 5), none⟩,
    ⟨(some 27), .bin .add (.t 26) (.c (.int .i64 1)), none⟩,
    ⟨(some 5), .mv (.t 27), none⟩])))
def x46L2 : XCode :=
  (.seq (.seq (.region [0, 2, 12] [⟨(some 6), .mv (.t 2), none⟩,
    ⟨(some 7), .mv (.t 0), none⟩,
    ⟨(some 8), .nilCheck (.t 7), none⟩,
    ⟨(some 9), .fieldA 15 (.t 8), none⟩,
    ⟨(some 10), .load none (.t 9), none⟩,
    ⟨(some 11), .len (.t 10), none⟩,
    ⟨(some 12), .bin .lss (.t 6) (.t 11), none⟩])
  (.cond (.t 12)
    .skip
    (.exit 0)))
  (.seq (.block 1 (.seq (.region [0, 2, 3] [⟨(some 15), .mv (.t 0), none⟩,
    ⟨(some 16), .nilCheck (.t 15), none⟩,
    ⟨(some 17), .fieldA 15 (.t 16), none⟩,
    ⟨(some 18), .load none (.t 17), none⟩,
    ⟨(some 19), .mv (.t 2), none⟩,
    ⟨(some 20), .idxA 3 (.t 18) (.t 19), none⟩,
    ⟨(some 21), .load (some 3) (.t 20), none⟩,
    ⟨(some 3), .alloc [(.slice none 0 0), (.slice none 0 0), (.int .i64 0)], none⟩,
    ⟨none, .store 3 (.t 3) (.t 21), none⟩])
  (.seq (.region [0, 2, 3, 4] [⟨(some 22), .fieldA 0 (.t 3), none⟩,
    ⟨(some 23), .load none (.t 22), none⟩,
    ⟨(some 4), .mv (.t 23), none⟩])
  (.seq (.seq (.region [0, 2, 3, 4, 5] [⟨(some 5), .mv (.c (.int .i64 0)), none⟩])
  (.block 2 (.loop [0, 2, 3, 4, 5] x46L1)))
  (.region [0, 2] [⟨(some 34), .mv (.t 0), none⟩,
    ⟨(some 35), .nilCheck (.t 34), none⟩,
    ⟨(some 36), .fieldA 15 (.t 35), none⟩,
    ⟨(some 37), .load none (.t 36), none⟩,
    ⟨(some 38), .mv (.t 2), none⟩,
    ⟨(some 39), .mv (.t 4), none⟩,
    ⟨(some 40), .idxA 3 (.t 37) (.t 38), none⟩,
    ⟨(some 41), .fieldA 1 (.t 40), none⟩,
    ⟨none, .store 1 (.t 41) (.t 39), none⟩])))))
  (.region [0, 2] [⟨(some 13), .mv (.t 2), none⟩,
    ⟨(some 14), .bin .add (.t 13) (.c (.int .i64 1)), none⟩,
    ⟨(some 2), .mv (.t 14), none⟩])))
/-- (*gearbox/gearboxlaw01.Book).growLoc · 1 parameters, 0 captured -/
def x46 : XFun := ⟨[],
  (.seq (.region [0, 2] [⟨(some 2), .mv (.c (.int .i64 0)), none⟩])
  (.block 0 (.loop [0, 2] x46L2)))⟩

def x40L1 : XCode :=
  (.seq (.seq (.region [0, 2, 3, 4, 5, 25] [⟨(some 24), .mv (.t 5), none⟩,
    ⟨(some 25), .bin .lss (.t 24) (.c (.int .i64 40)), none⟩])
  (.cond (.t 25)
    .skip
    (.exit 2)))
  (.seq (.block 3 (.region [0, 2, 3, 4, 5] [⟨(some 28), .mv (.t 4), none⟩,
    ⟨(some 29), .fieldA 2 (.t 3), none⟩,
    ⟨(some 30), .load none (.t 29), none⟩,
    ⟨(some 31), .call .view 406 [(.t 30)], none⟩,
    ⟨(some 32), .buildSlice 2 [(.int .i64 0), (.slice none 0 0)] 1 [(0, 2, (.t 31))], none⟩,
    ⟨(some 33), .append 2 32 (.t 28) (.t 32), none⟩,
    ⟨(some 4), .mv (.t 33), none⟩]))
  (.region [0, 2, 3, 4, 5] [⟨(some 26), .mv (.t 5), none⟩,
    ⟨(some 27), .bin .add (.t 26) (.c (.int .i64 1)), none⟩,
    ⟨(some 5), .mv (.t 27), none⟩])))
def x40L2 : XCode :=
  (.seq (.seq (.region [0, 2, 12] [⟨(some 6), .mv (.t 2), none⟩,
    ⟨(some 7), .mv (.t 0), none⟩,
    ⟨(some 8), .nilCheck (.t 7), none⟩,
    ⟨(some 9), .fieldA 16 (.t 8), none⟩,
    ⟨(some 10), .load none (.t 9), none⟩,
    ⟨(some 11), .len (.t 10), none⟩,
    ⟨(some 12), .bin .lss (.t 6) (.t 11), none⟩])
  (.cond (.t 12)
    .skip
    (.exit 0)))
  (.seq (.block 1 (.seq (.region [0, 2, 3] [⟨(some 15), .mv (.t 0), none⟩,
    ⟨(some 16), .nilCheck (.t 15), none⟩,
    ⟨(some 17), .fieldA 16 (.t 16), none⟩,
    ⟨(some 18), .load none (.t 17), none⟩,
    ⟨(some 19), .mv (.t 2), none⟩,
    ⟨(some 20), .idxA 3 (.t 18) (.t 19), none⟩,
    ⟨(some 21), .load (some 3) (.t 20), none⟩,
    ⟨(some 3), .alloc [(.slice none 0 0), (.slice none 0 0), (.int .i64 0)], none⟩,
    ⟨none, .store 3 (.t 3) (.t 21), none⟩])
  (.seq (.region [0, 2, 3, 4] [⟨(some 22), .fieldA 0 (.t 3), none⟩,
    ⟨(some 23), .load none (.t 22), none⟩,
    ⟨(some 4), .mv (.t 23), none⟩])
  (.seq (.seq (.region [0, 2, 3, 4, 5] [⟨(some 5), .mv (.c (.int .i64 0)), none⟩])
  (.block 2 (.loop [0, 2, 3, 4, 5] x40L1)))
  (.region [0, 2] [⟨(some 34), .mv (.t 0), none⟩,
    ⟨(some 35), .nilCheck (.t 34), none⟩,
    ⟨(some 36), .fieldA 16 (.t 35), none⟩,
    ⟨(some 37), .load none (.t 36), none⟩,
    ⟨(some 38), .mv (.t 2), none⟩,
    ⟨(some 39), .mv (.t 4), none⟩,
    ⟨(some 40), .idxA 3 (.t 37) (.t 38), none⟩,
    ⟨(some 41), .fieldA 1 (.t 40), none⟩,
    ⟨none, .store 1 (.t 41) (.t 39), none⟩])))))
  (.region [0, 2] [⟨(some 13), .mv (.t 2), none⟩,
    ⟨(some 14), .bin .add (.t 13) (.c (.int .i64 1)), none⟩,
    ⟨(some 2), .mv (.t 14), none⟩])))
/-- (*gearbox/gearboxlaw01.Book).growExit · 1 parameters, 0 captured -/
def x40 : XFun := ⟨[],
  (.seq (.region [0, 2] [⟨(some 2), .mv (.c (.int .i64 0)), none⟩])
  (.block 0 (.loop [0, 2] x40L2)))⟩

def x39L1 : XCode :=
  (.seq (.seq (.region [0, 2, 3, 4, 5, 25] [⟨(some 24), .mv (.t 5), none⟩,
    ⟨(some 25), .bin .lss (.t 24) (.c (.int .i64 40)), none⟩])
  (.cond (.t 25)
    .skip
    (.exit 2)))
  (.seq (.block 3 (.region [0, 2, 3, 4, 5] [⟨(some 28), .mv (.t 4), none⟩,
    ⟨(some 29), .fieldA 2 (.t 3), none⟩,
    ⟨(some 30), .load none (.t 29), none⟩,
    ⟨(some 31), .call .view 405 [(.t 30)], none⟩,
    ⟨(some 32), .buildSlice 3 [(.int .i64 0), (.int .i64 0), (.slice none 0 0)] 1 [(0, 3, (.t 31))], none⟩,
    ⟨(some 33), .append 3 40 (.t 28) (.t 32), none⟩,
    ⟨(some 4), .mv (.t 33), none⟩]))
  (.region [0, 2, 3, 4, 5] [⟨(some 26), .mv (.t 5), none⟩,
    ⟨(some 27), .bin .add (.t 26) (.c (.int .i64 1)), none⟩,
    ⟨(some 5), .mv (.t 27), none⟩])))
def x39L2 : XCode :=
  (.seq (.seq (.region [0, 2, 12] [⟨(some 6), .mv (.t 2), none⟩,
    ⟨(some 7), .mv (.t 0), none⟩,
    ⟨(some 8), .nilCheck (.t 7), none⟩,
    ⟨(some 9), .fieldA 17 (.t 8), none⟩,
    ⟨(some 10), .load none (.t 9), none⟩,
    ⟨(some 11), .len (.t 10), none⟩,
    ⟨(some 12), .bin .lss (.t 6) (.t 11), none⟩])
  (.cond (.t 12)
    .skip
    (.exit 0)))
  (.seq (.block 1 (.seq (.region [0, 2, 3] [⟨(some 15), .mv (.t 0), none⟩,
    ⟨(some 16), .nilCheck (.t 15), none⟩,
    ⟨(some 17), .fieldA 17 (.t 16), none⟩,
    ⟨(some 18), .load none (.t 17), none⟩,
    ⟨(some 19), .mv (.t 2), none⟩,
    ⟨(some 20), .idxA 3 (.t 18) (.t 19), none⟩,
    ⟨(some 21), .load (some 3) (.t 20), none⟩,
    ⟨(some 3), .alloc [(.slice none 0 0), (.slice none 0 0), (.int .i64 0)], none⟩,
    ⟨none, .store 3 (.t 3) (.t 21), none⟩])
  (.seq (.region [0, 2, 3, 4] [⟨(some 22), .fieldA 0 (.t 3), none⟩,
    ⟨(some 23), .load none (.t 22), none⟩,
    ⟨(some 4), .mv (.t 23), none⟩])
  (.seq (.seq (.region [0, 2, 3, 4, 5] [⟨(some 5), .mv (.c (.int .i64 0)), none⟩])
  (.block 2 (.loop [0, 2, 3, 4, 5] x39L1)))
  (.region [0, 2] [⟨(some 34), .mv (.t 0), none⟩,
    ⟨(some 35), .nilCheck (.t 34), none⟩,
    ⟨(some 36), .fieldA 17 (.t 35), none⟩,
    ⟨(some 37), .load none (.t 36), none⟩,
    ⟨(some 38), .mv (.t 2), none⟩,
    ⟨(some 39), .mv (.t 4), none⟩,
    ⟨(some 40), .idxA 3 (.t 37) (.t 38), none⟩,
    ⟨(some 41), .fieldA 1 (.t 40), none⟩,
    ⟨none, .store 1 (.t 41) (.t 39), none⟩])))))
  (.region [0, 2] [⟨(some 13), .mv (.t 2), none⟩,
    ⟨(some 14), .bin .add (.t 13) (.c (.int .i64 1)), none⟩,
    ⟨(some 2), .mv (.t 14), none⟩])))
/-- (*gearbox/gearboxlaw01.Book).growEntry · 1 parameters, 0 captured -/
def x39 : XFun := ⟨[],
  (.seq (.region [0, 2] [⟨(some 2), .mv (.c (.int .i64 0)), none⟩])
  (.block 0 (.loop [0, 2] x39L2)))⟩

def x47L1 : XCode :=
  (.seq (.seq (.region [0, 2, 3, 4, 5, 25] [⟨(some 24), .mv (.t 5), none⟩,
    ⟨(some 25), .bin .lss (.t 24) (.c (.int .i64 40)), none⟩])
  (.cond (.t 25)
    .skip
    (.exit 2)))
  (.seq (.block 3 (.region [0, 2, 3, 4, 5] [⟨(some 28), .mv (.t 4), none⟩,
    ⟨(some 29), .fieldA 2 (.t 3), none⟩,
    ⟨(some 30), .load none (.t 29), none⟩,
    ⟨(some 31), .call .view 413 [(.t 30)], none⟩,
    ⟨(some 32), .buildSlice 5 [(.int .u8 0), (.slice none 0 0), (.int .i64 0), (.int .u8 0), (.int .i64 0)] 1 [(0, 5, (.t 31))], none⟩,
    ⟨(some 33), .append 5 56 (.t 28) (.t 32), none⟩,
    ⟨(some 4), .mv (.t 33), none⟩]))
  (.region [0, 2, 3, 4, 5] [⟨(some 26), .mv (.t 5), none⟩,
    ⟨(some 27), .bin .add (.t 26) (.c (.int .i64 1)), none⟩,
    ⟨(some 5), .mv (.t 27), none⟩])))
def x47L2 : XCode :=
  (.seq (.seq (.region [0, 2, 12] [⟨(some 6), .mv (.t 2), none⟩,
    ⟨(some 7), .mv (.t 0), none⟩,
    ⟨(some 8), .nilCheck (.t 7), none⟩,
    ⟨(some 9), .fieldA 18 (.t 8), none⟩,
    ⟨(some 10), .load none (.t 9), none⟩,
    ⟨(some 11), .len (.t 10), none⟩,
    ⟨(some 12), .bin .lss (.t 6) (.t 11), none⟩])
  (.cond (.t 12)
    .skip
    (.exit 0)))
  (.seq (.block 1 (.seq (.region [0, 2, 3] [⟨(some 15), .mv (.t 0), none⟩,
    ⟨(some 16), .nilCheck (.t 15), none⟩,
    ⟨(some 17), .fieldA 18 (.t 16), none⟩,
    ⟨(some 18), .load none (.t 17), none⟩,
    ⟨(some 19), .mv (.t 2), none⟩,
    ⟨(some 20), .idxA 3 (.t 18) (.t 19), none⟩,
    ⟨(some 21), .load (some 3) (.t 20), none⟩,
    ⟨(some 3), .alloc [(.slice none 0 0), (.slice none 0 0), (.int .i64 0)], none⟩,
    ⟨none, .store 3 (.t 3) (.t 21), none⟩])
  (.seq (.region [0, 2, 3, 4] [⟨(some 22), .fieldA 0 (.t 3), none⟩,
    ⟨(some 23), .load none (.t 22), none⟩,
    ⟨(some 4), .mv (.t 23), none⟩])
  (.seq (.seq (.region [0, 2, 3, 4, 5] [⟨(some 5), .mv (.c (.int .i64 0)), none⟩])
  (.block 2 (.loop [0, 2, 3, 4, 5] x47L1)))
  (.region [0, 2] [⟨(some 34), .mv (.t 0), none⟩,
    ⟨(some 35), .nilCheck (.t 34), none⟩,
    ⟨(some 36), .fieldA 18 (.t 35), none⟩,
    ⟨(some 37), .load none (.t 36), none⟩,
    ⟨(some 38), .mv (.t 2), none⟩,
    ⟨(some 39), .mv (.t 4), none⟩,
    ⟨(some 40), .idxA 3 (.t 37) (.t 38), none⟩,
    ⟨(some 41), .fieldA 1 (.t 40), none⟩,
    ⟨none, .store 1 (.t 41) (.t 39), none⟩])))))
  (.region [0, 2] [⟨(some 13), .mv (.t 2), none⟩,
    ⟨(some 14), .bin .add (.t 13) (.c (.int .i64 1)), none⟩,
    ⟨(some 2), .mv (.t 14), none⟩])))
/-- (*gearbox/gearboxlaw01.Book).growNode · 1 parameters, 0 captured -/
def x47 : XFun := ⟨[],
  (.seq (.region [0, 2] [⟨(some 2), .mv (.c (.int .i64 0)), none⟩])
  (.block 0 (.loop [0, 2] x47L2)))⟩

def x36L1 : XCode :=
  (.seq (.seq (.region [0, 2, 3, 4, 5, 25] [⟨(some 24), .mv (.t 5), none⟩,
    ⟨(some 25), .bin .lss (.t 24) (.c (.int .i64 40)), none⟩])
  (.cond (.t 25)
    .skip
    (.exit 2)))
  (.seq (.block 3 (.region [0, 2, 3, 4, 5] [⟨(some 28), .mv (.t 4), none⟩,
    ⟨(some 29), .fieldA 2 (.t 3), none⟩,
    ⟨(some 30), .load none (.t 29), none⟩,
    ⟨(some 31), .call .view 402 [(.t 30)], none⟩,
    ⟨(some 32), .buildSlice 6 [(.slice none 0 0), (.int .u8 0), (.slice none 0 0), (.slice none 0 0), (.slice none 0 0), (.int .i64 0)] 1 [(0, 6, (.t 31))], none⟩,
    ⟨(some 33), .append 6 112 (.t 28) (.t 32), none⟩,
    ⟨(some 4), .mv (.t 33), none⟩]))
  (.region [0, 2, 3, 4, 5] [⟨(some 26), .mv (.t 5), none⟩,
    ⟨(some 27), .bin .add (.t 26) (.c (.int .i64 1)), none⟩,
    ⟨(some 5), .mv (.t 27), none⟩])))
def x36L2 : XCode :=
  (.seq (.seq (.region [0, 2, 12] [⟨(some 6), .mv (.t 2), none⟩,
    ⟨(some 7), .mv (.t 0), none⟩,
    ⟨(some 8), .nilCheck (.t 7), none⟩,
    ⟨(some 9), .fieldA 19 (.t 8), none⟩,
    ⟨(some 10), .load none (.t 9), none⟩,
    ⟨(some 11), .len (.t 10), none⟩,
    ⟨(some 12), .bin .lss (.t 6) (.t 11), none⟩])
  (.cond (.t 12)
    .skip
    (.exit 0)))
  (.seq (.block 1 (.seq (.region [0, 2, 3] [⟨(some 15), .mv (.t 0), none⟩,
    ⟨(some 16), .nilCheck (.t 15), none⟩,
    ⟨(some 17), .fieldA 19 (.t 16), none⟩,
    ⟨(some 18), .load none (.t 17), none⟩,
    ⟨(some 19), .mv (.t 2), none⟩,
    ⟨(some 20), .idxA 3 (.t 18) (.t 19), none⟩,
    ⟨(some 21), .load (some 3) (.t 20), none⟩,
    ⟨(some 3), .alloc [(.slice none 0 0), (.slice none 0 0), (.int .i64 0)], none⟩,
    ⟨none, .store 3 (.t 3) (.t 21), none⟩])
  (.seq (.region [0, 2, 3, 4] [⟨(some 22), .fieldA 0 (.t 3), none⟩,
    ⟨(some 23), .load none (.t 22), none⟩,
    ⟨(some 4), .mv (.t 23), none⟩])
  (.seq (.seq (.region [0, 2, 3, 4, 5] [⟨(some 5), .mv (.c (.int .i64 0)), none⟩])
  (.block 2 (.loop [0, 2, 3, 4, 5] x36L1)))
  (.region [0, 2] [⟨(some 34), .mv (.t 0), none⟩,
    ⟨(some 35), .nilCheck (.t 34), none⟩,
    ⟨(some 36), .fieldA 19 (.t 35), none⟩,
    ⟨(some 37), .load none (.t 36), none⟩,
    ⟨(some 38), .mv (.t 2), none⟩,
    ⟨(some 39), .mv (.t 4), none⟩,
    ⟨(some 40), .idxA 3 (.t 37) (.t 38), none⟩,
    ⟨(some 41), .fieldA 1 (.t 40), none⟩,
    ⟨none, .store 1 (.t 41) (.t 39), none⟩])))))
  (.region [0, 2] [⟨(some 13), .mv (.t 2), none⟩,
    ⟨(some 14), .bin .add (.t 13) (.c (.int .i64 1)), none⟩,
    ⟨(some 2), .mv (.t 14), none⟩])))
/-- (*gearbox/gearboxlaw01.Book).growBlock · 1 parameters, 0 captured -/
def x36 : XFun := ⟨[],
  (.seq (.region [0, 2] [⟨(some 2), .mv (.c (.int .i64 0)), none⟩])
  (.block 0 (.loop [0, 2] x36L2)))⟩

def x51L1 : XCode :=
  (.seq (.seq (.region [0, 2, 3, 4, 5, 25] [⟨(some 24), .mv (.t 5), none⟩,
    ⟨(some 25), .bin .lss (.t 24) (.c (.int .i64 40)), none⟩])
  (.cond (.t 25)
    .skip
    (.exit 2)))
  (.seq (.block 3 (.region [0, 2, 3, 4, 5] [⟨(some 28), .mv (.t 4), none⟩,
    ⟨(some 29), .fieldA 2 (.t 3), none⟩,
    ⟨(some 30), .load none (.t 29), none⟩,
    ⟨(some 31), .call .view 417 [(.t 30)], none⟩,
    ⟨(some 32), .buildSlice 2 [(.int .i64 0), (.slice none 0 0)] 1 [(0, 2, (.t 31))], none⟩,
    ⟨(some 33), .append 2 32 (.t 28) (.t 32), none⟩,
    ⟨(some 4), .mv (.t 33), none⟩]))
  (.region [0, 2, 3, 4, 5] [⟨(some 26), .mv (.t 5), none⟩,
    ⟨(some 27), .bin .add (.t 26) (.c (.int .i64 1)), none⟩,
    ⟨(some 5), .mv (.t 27), none⟩])))
def x51L2 : XCode :=
  (.seq (.seq (.region [0, 2, 12] [⟨(some 6), .mv (.t 2), none⟩,
    ⟨(some 7), .mv (.t 0), none⟩,
    ⟨(some 8), .nilCheck (.t 7), none⟩,
    ⟨(some 9), .fieldA 20 (.t 8), none⟩,
    ⟨(some 10), .load none (.t 9), none⟩,
    ⟨(some 11), .len (.t 10), none⟩,
    ⟨(some 12), .bin .lss (.t 6) (.t 11), none⟩])
  (.cond (.t 12)
    .skip
    (.exit 0)))
  (.seq (.block 1 (.seq (.region [0, 2, 3] [⟨(some 15), .mv (.t 0), none⟩,
    ⟨(some 16), .nilCheck (.t 15), none⟩,
    ⟨(some 17), .fieldA 20 (.t 16), none⟩,
    ⟨(some 18), .load none (.t 17), none⟩,
    ⟨(some 19), .mv (.t 2), none⟩,
    ⟨(some 20), .idxA 3 (.t 18) (.t 19), none⟩,
    ⟨(some 21), .load (some 3) (.t 20), none⟩,
    ⟨(some 3), .alloc [(.slice none 0 0), (.slice none 0 0), (.int .i64 0)], none⟩,
    ⟨none, .store 3 (.t 3) (.t 21), none⟩])
  (.seq (.region [0, 2, 3, 4] [⟨(some 22), .fieldA 0 (.t 3), none⟩,
    ⟨(some 23), .load none (.t 22), none⟩,
    ⟨(some 4), .mv (.t 23), none⟩])
  (.seq (.seq (.region [0, 2, 3, 4, 5] [⟨(some 5), .mv (.c (.int .i64 0)), none⟩])
  (.block 2 (.loop [0, 2, 3, 4, 5] x51L1)))
  (.region [0, 2] [⟨(some 34), .mv (.t 0), none⟩,
    ⟨(some 35), .nilCheck (.t 34), none⟩,
    ⟨(some 36), .fieldA 20 (.t 35), none⟩,
    ⟨(some 37), .load none (.t 36), none⟩,
    ⟨(some 38), .mv (.t 2), none⟩,
    ⟨(some 39), .mv (.t 4), none⟩,
    ⟨(some 40), .idxA 3 (.t 37) (.t 38), none⟩,
    ⟨(some 41), .fieldA 1 (.t 40), none⟩,
    ⟨none, .store 1 (.t 41) (.t 39), none⟩])))))
  (.region [0, 2] [⟨(some 13), .mv (.t 2), none⟩,
    ⟨(some 14), .bin .add (.t 13) (.c (.int .i64 1)), none⟩,
    ⟨(some 2), .mv (.t 14), none⟩])))
/-- (*gearbox/gearboxlaw01.Book).growState · 1 parameters, 0 captured -/
def x51 : XFun := ⟨[],
  (.seq (.region [0, 2] [⟨(some 2), .mv (.c (.int .i64 0)), none⟩])
  (.block 0 (.loop [0, 2] x51L2)))⟩

def x75L1 : XCode :=
  (.seq (.seq (.region [0, 3, 4, 5, 34] [⟨(some 30), .mv (.t 5), none⟩,
    ⟨(some 31), .fieldA 1 (.t 4), none⟩,
    ⟨(some 32), .load none (.t 31), none⟩,
    ⟨(some 33), .len (.t 32), none⟩,
    ⟨(some 34), .bin .lss (.t 30) (.t 33), none⟩])
  (.cond (.t 34)
    .skip
    (.exit 2)))
  (.seq (.block 3 (.seq (.region [0, 3, 4, 5, 63] [⟨(some 37), .fieldA 1 (.t 4), none⟩,
    ⟨(some 38), .load none (.t 37), none⟩,
    ⟨(some 39), .mv (.t 5), none⟩,
    ⟨(some 40), .idxA 1 (.t 38) (.t 39), none⟩,
    ⟨(some 41), .load none (.t 40), none⟩,
    ⟨(some 42), .fieldA 2 (.t 4), none⟩,
    ⟨(some 43), .load none (.t 42), none⟩,
    ⟨(some 44), .call .view 391 [(.t 41), (.t 43)], none⟩,
    ⟨(some 45), .un .not (.t 44), none⟩,
    ⟨(some 46), .mv (.t 45), none⟩,
    ⟨(some 47), .mv (.t 5), some (46, false)⟩,
    ⟨(some 48), .fieldA 0 (.t 4), some (46, false)⟩,
    ⟨(some 49), .load none (.t 48), some (46, false)⟩,
    ⟨(some 50), .len (.t 49), some (46, false)⟩,
    ⟨(some 51), .bin .lss (.t 47) (.t 50), some (46, false)⟩,
    ⟨(some 52), .mv (.t 51), some (46, false)⟩,
    ⟨(some 53), .fieldA 0 (.t 4), some (52, true)⟩,
    ⟨(some 54), .load none (.t 53), some (52, true)⟩,
    ⟨(some 55), .mv (.t 5), some (52, true)⟩,
    ⟨(some 56), .idxA 1 (.t 54) (.t 55), some (52, true)⟩,
    ⟨(some 57), .load none (.t 56), some (52, true)⟩,
    ⟨(some 58), .fieldA 2 (.t 4), some (52, true)⟩,
    ⟨(some 59), .load none (.t 58), some (52, true)⟩,
    ⟨(some 60), .call .view 391 [(.t 57), (.t 59)], some (52, true)⟩,
    ⟨(some 61), .un .not (.t 60), some (52, true)⟩,
    ⟨(some 62), .pick (.t 52) (.t 61) (.c (.bool false)), some (46, false)⟩,
    ⟨(some 63), .pick (.t 46) (.c (.bool true)) (.t 62), none⟩])
  (.cond (.t 63)
    (.seq (.region [2] [⟨(some 2), .mv (.c (.bool false)), none⟩])
    .ret)
    .skip)))
  (.region [0, 3, 4, 5] [⟨(some 35), .mv (.t 5), none⟩,
    ⟨(some 36), .bin .add (.t 35) (.c (.int .i64 1)), none⟩,
    ⟨(some 5), .mv (.t 36), none⟩])))
def x75L2 : XCode :=
  (.seq (.seq (.region [0, 3, 12] [⟨(some 6), .mv (.t 3), none⟩,
    ⟨(some 7), .mv (.t 0), none⟩,
    ⟨(some 8), .nilCheck (.t 7), none⟩,
    ⟨(some 9), .fieldA 1 (.t 8), none⟩,
    ⟨(some 10), .load none (.t 9), none⟩,
    ⟨(some 11), .len (.t 10), none⟩,
    ⟨(some 12), .bin .lss (.t 6) (.t 11), none⟩])
  (.cond (.t 12)
    .skip
    (.exit 0)))
  (.seq (.block 1 (.seq (.region [0, 3, 4] [⟨(some 15), .mv (.t 0), none⟩,
    ⟨(some 16), .nilCheck (.t 15), none⟩,
    ⟨(some 17), .fieldA 1 (.t 16), none⟩,
    ⟨(some 18), .load none (.t 17), none⟩,
    ⟨(some 19), .mv (.t 3), none⟩,
    ⟨(some 20), .idxA 3 (.t 18) (.t 19), none⟩,
    ⟨(some 21), .load (some 3) (.t 20), none⟩,
    ⟨(some 4), .alloc [(.slice none 0 0), (.slice none 0 0), (.int .i64 0)], none⟩,
    ⟨none, .store 3 (.t 4) (.t 21), none⟩])
  (.seq (.seq (.region [0, 3, 4, 29] [⟨(some 22), .fieldA 1 (.t 4), none⟩,
    ⟨(some 23), .load none (.t 22), none⟩,
    ⟨(some 24), .len (.t 23), none⟩,
    ⟨(some 25), .fieldA 0 (.t 4), none⟩,
    ⟨(some 26), .load none (.t 25), none⟩,
    ⟨(some 27), .len (.t 26), none⟩,
    ⟨(some 28), .bin .add (.t 27) (.c (.int .i64 40)), none⟩,
    ⟨(some 29), .bin .neq (.t 24) (.t 28), none⟩])
  (.cond (.t 29)
    (.seq (.region [2] [⟨(some 2), .mv (.c (.bool false)), none⟩])
    .ret)
    .skip))
  (.seq (.region [0, 3, 4, 5] [⟨(some 5), .mv (.c (.int .i64 0)), none⟩])
  (.block 2 (.loop [0, 3, 4, 5] x75L1))))))
  (.region [0, 3] [⟨(some 13), .mv (.t 3), none⟩,
    ⟨(some 14), .bin .add (.t 13) (.c (.int .i64 1)), none⟩,
    ⟨(some 3), .mv (.t 14), none⟩])))
/-- (*gearbox/gearboxlaw01.Book).lookInt · 1 parameters, 0 captured -/
def x75 : XFun := ⟨[.tmp 2],
  (.seq (.region [0] [⟨(some 2), .mv (.c (.bool false)), none⟩])
  (.seq (.seq (.region [0, 3] [⟨(some 3), .mv (.c (.int .i64 0)), none⟩])
  (.block 0 (.loop [0, 3] x75L2)))
  (.seq (.region [2] [⟨(some 2), .mv (.c (.bool true)), none⟩])
  .ret)))⟩

def x79L1 : XCode :=
  (.seq (.seq (.region [0, 3, 4, 5, 34] [⟨(some 30), .mv (.t 5), none⟩,
    ⟨(some 31), .fieldA 1 (.t 4), none⟩,
    ⟨(some 32), .load none (.t 31), none⟩,
    ⟨(some 33), .len (.t 32), none⟩,
    ⟨(some 34), .bin .lss (.t 30) (.t 33), none⟩])
  (.cond (.t 34)
    .skip
    (.exit 2)))
  (.seq (.block 3 (.seq (.region [0, 3, 4, 5, 63] [⟨(some 37), .fieldA 1 (.t 4), none⟩,
    ⟨(some 38), .load none (.t 37), none⟩,
    ⟨(some 39), .mv (.t 5), none⟩,
    ⟨(some 40), .idxA 1 (.t 38) (.t 39), none⟩,
    ⟨(some 41), .load none (.t 40), none⟩,
    ⟨(some 42), .fieldA 2 (.t 4), none⟩,
    ⟨(some 43), .load none (.t 42), none⟩,
    ⟨(some 44), .call .view 395 [(.t 41), (.t 43)], none⟩,
    ⟨(some 45), .un .not (.t 44), none⟩,
    ⟨(some 46), .mv (.t 45), none⟩,
    ⟨(some 47), .mv (.t 5), some (46, false)⟩,
    ⟨(some 48), .fieldA 0 (.t 4), some (46, false)⟩,
    ⟨(some 49), .load none (.t 48), some (46, false)⟩,
    ⟨(some 50), .len (.t 49), some (46, false)⟩,
    ⟨(some 51), .bin .lss (.t 47) (.t 50), some (46, false)⟩,
    ⟨(some 52), .mv (.t 51), some (46, false)⟩,
    ⟨(some 53), .fieldA 0 (.t 4), some (52, true)⟩,
    ⟨(some 54), .load none (.t 53), some (52, true)⟩,
    ⟨(some 55), .mv (.t 5), some (52, true)⟩,
    ⟨(some 56), .idxA 1 (.t 54) (.t 55), some (52, true)⟩,
    ⟨(some 57), .load none (.t 56), some (52, true)⟩,
    ⟨(some 58), .fieldA 2 (.t 4), some (52, true)⟩,
    ⟨(some 59), .load none (.t 58), some (52, true)⟩,
    ⟨(some 60), .call .view 395 [(.t 57), (.t 59)], some (52, true)⟩,
    ⟨(some 61), .un .not (.t 60), some (52, true)⟩,
    ⟨(some 62), .pick (.t 52) (.t 61) (.c (.bool false)), some (46, false)⟩,
    ⟨(some 63), .pick (.t 46) (.c (.bool true)) (.t 62), none⟩])
  (.cond (.t 63)
    (.seq (.region [2] [⟨(some 2), .mv (.c (.bool false)), none⟩])
    .ret)
    .skip)))
  (.region [0, 3, 4, 5] [⟨(some 35), .mv (.t 5), none⟩,
    ⟨(some 36), .bin .add (.t 35) (.c (.int .i64 1)), none⟩,
    ⟨(some 5), .mv (.t 36), none⟩])))
def x79L2 : XCode :=
  (.seq (.seq (.region [0, 3, 12] [⟨(some 6), .mv (.t 3), none⟩,
    ⟨(some 7), .mv (.t 0), none⟩,
    ⟨(some 8), .nilCheck (.t 7), none⟩,
    ⟨(some 9), .fieldA 2 (.t 8), none⟩,
    ⟨(some 10), .load none (.t 9), none⟩,
    ⟨(some 11), .len (.t 10), none⟩,
    ⟨(some 12), .bin .lss (.t 6) (.t 11), none⟩])
  (.cond (.t 12)
    .skip
    (.exit 0)))
  (.seq (.block 1 (.seq (.region [0, 3, 4] [⟨(some 15), .mv (.t 0), none⟩,
    ⟨(some 16), .nilCheck (.t 15), none⟩,
    ⟨(some 17), .fieldA 2 (.t 16), none⟩,
    ⟨(some 18), .load none (.t 17), none⟩,
    ⟨(some 19), .mv (.t 3), none⟩,
    ⟨(some 20), .idxA 3 (.t 18) (.t 19), none⟩,
    ⟨(some 21), .load (some 3) (.t 20), none⟩,
    ⟨(some 4), .alloc [(.slice none 0 0), (.slice none 0 0), (.int .i64 0)], none⟩,
    ⟨none, .store 3 (.t 4) (.t 21), none⟩])
  (.seq (.seq (.region [0, 3, 4, 29] [⟨(some 22), .fieldA 1 (.t 4), none⟩,
    ⟨(some 23), .load none (.t 22), none⟩,
    ⟨(some 24), .len (.t 23), none⟩,
    ⟨(some 25), .fieldA 0 (.t 4), none⟩,
    ⟨(some 26), .load none (.t 25), none⟩,
    ⟨(some 27), .len (.t 26), none⟩,
    ⟨(some 28), .bin .add (.t 27) (.c (.int .i64 40)), none⟩,
    ⟨(some 29), .bin .neq (.t 24) (.t 28), none⟩])
  (.cond (.t 29)
    (.seq (.region [2] [⟨(some 2), .mv (.c (.bool false)), none⟩])
    .ret)
    .skip))
  (.seq (.region [0, 3, 4, 5] [⟨(some 5), .mv (.c (.int .i64 0)), none⟩])
  (.block 2 (.loop [0, 3, 4, 5] x79L1))))))
  (.region [0, 3] [⟨(some 13), .mv (.t 3), none⟩,
    ⟨(some 14), .bin .add (.t 13) (.c (.int .i64 1)), none⟩,
    ⟨(some 3), .mv (.t 14), none⟩])))
/-- (*gearbox/gearboxlaw01.Book).lookPlace · 1 parameters, 0 captured -/
def x79 : XFun := ⟨[.tmp 2],
  (.seq (.region [0] [⟨(some 2), .mv (.c (.bool false)), none⟩])
  (.seq (.seq (.region [0, 3] [⟨(some 3), .mv (.c (.int .i64 0)), none⟩])
  (.block 0 (.loop [0, 3] x79L2)))
  (.seq (.region [2] [⟨(some 2), .mv (.c (.bool true)), none⟩])
  .ret)))⟩

def x83L1 : XCode :=
  (.seq (.seq (.region [0, 3, 4, 5, 34] [⟨(some 30), .mv (.t 5), none⟩,
    ⟨(some 31), .fieldA 1 (.t 4), none⟩,
    ⟨(some 32), .load none (.t 31), none⟩,
    ⟨(some 33), .len (.t 32), none⟩,
    ⟨(some 34), .bin .lss (.t 30) (.t 33), none⟩])
  (.cond (.t 34)
    .skip
    (.exit 2)))
  (.seq (.block 3 (.seq (.region [0, 3, 4, 5, 63] [⟨(some 37), .fieldA 1 (.t 4), none⟩,
    ⟨(some 38), .load none (.t 37), none⟩,
    ⟨(some 39), .mv (.t 5), none⟩,
    ⟨(some 40), .idxA 1 (.t 38) (.t 39), none⟩,
    ⟨(some 41), .load none (.t 40), none⟩,
    ⟨(some 42), .fieldA 2 (.t 4), none⟩,
    ⟨(some 43), .load none (.t 42), none⟩,
    ⟨(some 44), .call .view 399 [(.t 41), (.t 43)], none⟩,
    ⟨(some 45), .un .not (.t 44), none⟩,
    ⟨(some 46), .mv (.t 45), none⟩,
    ⟨(some 47), .mv (.t 5), some (46, false)⟩,
    ⟨(some 48), .fieldA 0 (.t 4), some (46, false)⟩,
    ⟨(some 49), .load none (.t 48), some (46, false)⟩,
    ⟨(some 50), .len (.t 49), some (46, false)⟩,
    ⟨(some 51), .bin .lss (.t 47) (.t 50), some (46, false)⟩,
    ⟨(some 52), .mv (.t 51), some (46, false)⟩,
    ⟨(some 53), .fieldA 0 (.t 4), some (52, true)⟩,
    ⟨(some 54), .load none (.t 53), some (52, true)⟩,
    ⟨(some 55), .mv (.t 5), some (52, true)⟩,
    ⟨(some 56), .idxA 1 (.t 54) (.t 55), some (52, true)⟩,
    ⟨(some 57), .load none (.t 56), some (52, true)⟩,
    ⟨(some 58), .fieldA 2 (.t 4), some (52, true)⟩,
    ⟨(some 59), .load none (.t 58), some (52, true)⟩,
    ⟨(some 60), .call .view 399 [(.t 57), (.t 59)], some (52, true)⟩,
    ⟨(some 61), .un .not (.t 60), some (52, true)⟩,
    ⟨(some 62), .pick (.t 52) (.t 61) (.c (.bool false)), some (46, false)⟩,
    ⟨(some 63), .pick (.t 46) (.c (.bool true)) (.t 62), none⟩])
  (.cond (.t 63)
    (.seq (.region [2] [⟨(some 2), .mv (.c (.bool false)), none⟩])
    .ret)
    .skip)))
  (.region [0, 3, 4, 5] [⟨(some 35), .mv (.t 5), none⟩,
    ⟨(some 36), .bin .add (.t 35) (.c (.int .i64 1)), none⟩,
    ⟨(some 5), .mv (.t 36), none⟩])))
def x83L2 : XCode :=
  (.seq (.seq (.region [0, 3, 12] [⟨(some 6), .mv (.t 3), none⟩,
    ⟨(some 7), .mv (.t 0), none⟩,
    ⟨(some 8), .nilCheck (.t 7), none⟩,
    ⟨(some 9), .fieldA 3 (.t 8), none⟩,
    ⟨(some 10), .load none (.t 9), none⟩,
    ⟨(some 11), .len (.t 10), none⟩,
    ⟨(some 12), .bin .lss (.t 6) (.t 11), none⟩])
  (.cond (.t 12)
    .skip
    (.exit 0)))
  (.seq (.block 1 (.seq (.region [0, 3, 4] [⟨(some 15), .mv (.t 0), none⟩,
    ⟨(some 16), .nilCheck (.t 15), none⟩,
    ⟨(some 17), .fieldA 3 (.t 16), none⟩,
    ⟨(some 18), .load none (.t 17), none⟩,
    ⟨(some 19), .mv (.t 3), none⟩,
    ⟨(some 20), .idxA 3 (.t 18) (.t 19), none⟩,
    ⟨(some 21), .load (some 3) (.t 20), none⟩,
    ⟨(some 4), .alloc [(.slice none 0 0), (.slice none 0 0), (.int .i64 0)], none⟩,
    ⟨none, .store 3 (.t 4) (.t 21), none⟩])
  (.seq (.seq (.region [0, 3, 4, 29] [⟨(some 22), .fieldA 1 (.t 4), none⟩,
    ⟨(some 23), .load none (.t 22), none⟩,
    ⟨(some 24), .len (.t 23), none⟩,
    ⟨(some 25), .fieldA 0 (.t 4), none⟩,
    ⟨(some 26), .load none (.t 25), none⟩,
    ⟨(some 27), .len (.t 26), none⟩,
    ⟨(some 28), .bin .add (.t 27) (.c (.int .i64 40)), none⟩,
    ⟨(some 29), .bin .neq (.t 24) (.t 28), none⟩])
  (.cond (.t 29)
    (.seq (.region [2] [⟨(some 2), .mv (.c (.bool false)), none⟩])
    .ret)
    .skip))
  (.seq (.region [0, 3, 4, 5] [⟨(some 5), .mv (.c (.int .i64 0)), none⟩])
  (.block 2 (.loop [0, 3, 4, 5] x83L1))))))
  (.region [0, 3] [⟨(some 13), .mv (.t 3), none⟩,
    ⟨(some 14), .bin .add (.t 13) (.c (.int .i64 1)), none⟩,
    ⟨(some 3), .mv (.t 14), none⟩])))
/-- (*gearbox/gearboxlaw01.Book).lookText · 1 parameters, 0 captured -/
def x83 : XFun := ⟨[.tmp 2],
  (.seq (.region [0] [⟨(some 2), .mv (.c (.bool false)), none⟩])
  (.seq (.seq (.region [0, 3] [⟨(some 3), .mv (.c (.int .i64 0)), none⟩])
  (.block 0 (.loop [0, 3] x83L2)))
  (.seq (.region [2] [⟨(some 2), .mv (.c (.bool true)), none⟩])
  .ret)))⟩

def x84L1 : XCode :=
  (.seq (.seq (.region [0, 3, 4, 5, 34] [⟨(some 30), .mv (.t 5), none⟩,
    ⟨(some 31), .fieldA 1 (.t 4), none⟩,
    ⟨(some 32), .load none (.t 31), none⟩,
    ⟨(some 33), .len (.t 32), none⟩,
    ⟨(some 34), .bin .lss (.t 30) (.t 33), none⟩])
  (.cond (.t 34)
    .skip
    (.exit 2)))
  (.seq (.block 3 (.seq (.region [0, 3, 4, 5, 63] [⟨(some 37), .fieldA 1 (.t 4), none⟩,
    ⟨(some 38), .load none (.t 37), none⟩,
    ⟨(some 39), .mv (.t 5), none⟩,
    ⟨(some 40), .idxA 2 (.t 38) (.t 39), none⟩,
    ⟨(some 41), .load (some 2) (.t 40), none⟩,
    ⟨(some 42), .fieldA 2 (.t 4), none⟩,
    ⟨(some 43), .load none (.t 42), none⟩,
    ⟨(some 44), .call .view 400 [(.t 41), (.t 43)], none⟩,
    ⟨(some 45), .un .not (.t 44), none⟩,
    ⟨(some 46), .mv (.t 45), none⟩,
    ⟨(some 47), .mv (.t 5), some (46, false)⟩,
    ⟨(some 48), .fieldA 0 (.t 4), some (46, false)⟩,
    ⟨(some 49), .load none (.t 48), some (46, false)⟩,
    ⟨(some 50), .len (.t 49), some (46, false)⟩,
    ⟨(some 51), .bin .lss (.t 47) (.t 50), some (46, false)⟩,
    ⟨(some 52), .mv (.t 51), some (46, false)⟩,
    ⟨(some 53), .fieldA 0 (.t 4), some (52, true)⟩,
    ⟨(some 54), .load none (.t 53), some (52, true)⟩,
    ⟨(some 55), .mv (.t 5), some (52, true)⟩,
    ⟨(some 56), .idxA 2 (.t 54) (.t 55), some (52, true)⟩,
    ⟨(some 57), .load (some 2) (.t 56), some (52, true)⟩,
    ⟨(some 58), .fieldA 2 (.t 4), some (52, true)⟩,
    ⟨(some 59), .load none (.t 58), some (52, true)⟩,
    ⟨(some 60), .call .view 400 [(.t 57), (.t 59)], some (52, true)⟩,
    ⟨(some 61), .un .not (.t 60), some (52, true)⟩,
    ⟨(some 62), .pick (.t 52) (.t 61) (.c (.bool false)), some (46, false)⟩,
    ⟨(some 63), .pick (.t 46) (.c (.bool true)) (.t 62), none⟩])
  (.cond (.t 63)
    (.seq (.region [2] [⟨(some 2), .mv (.c (.bool false)), none⟩])
    .ret)
    .skip)))
  (.region [0, 3, 4, 5] [⟨(some 35), .mv (.t 5), none⟩,
    ⟨(some 36), .bin .add (.t 35) (.c (.int .i64 1)), none⟩,
    ⟨(some 5), .mv (.t 36), none⟩])))
def x84L2 : XCode :=
  (.seq (.seq (.region [0, 3, 12] [⟨(some 6), .mv (.t 3), none⟩,
    ⟨(some 7), .mv (.t 0), none⟩,
    ⟨(some 8), .nilCheck (.t 7), none⟩,
    ⟨(some 9), .fieldA 4 (.t 8), none⟩,
    ⟨(some 10), .load none (.t 9), none⟩,
    ⟨(some 11), .len (.t 10), none⟩,
    ⟨(some 12), .bin .lss (.t 6) (.t 11), none⟩])
  (.cond (.t 12)
    .skip
    (.exit 0)))
  (.seq (.block 1 (.seq (.region [0, 3, 4] [⟨(some 15), .mv (.t 0), none⟩,
    ⟨(some 16), .nilCheck (.t 15), none⟩,
    ⟨(some 17), .fieldA 4 (.t 16), none⟩,
    ⟨(some 18), .load none (.t 17), none⟩,
    ⟨(some 19), .mv (.t 3), none⟩,
    ⟨(some 20), .idxA 3 (.t 18) (.t 19), none⟩,
    ⟨(some 21), .load (some 3) (.t 20), none⟩,
    ⟨(some 4), .alloc [(.slice none 0 0), (.slice none 0 0), (.int .i64 0)], none⟩,
    ⟨none, .store 3 (.t 4) (.t 21), none⟩])
  (.seq (.seq (.region [0, 3, 4, 29] [⟨(some 22), .fieldA 1 (.t 4), none⟩,
    ⟨(some 23), .load none (.t 22), none⟩,
    ⟨(some 24), .len (.t 23), none⟩,
    ⟨(some 25), .fieldA 0 (.t 4), none⟩,
    ⟨(some 26), .load none (.t 25), none⟩,
    ⟨(some 27), .len (.t 26), none⟩,
    ⟨(some 28), .bin .add (.t 27) (.c (.int .i64 40)), none⟩,
    ⟨(some 29), .bin .neq (.t 24) (.t 28), none⟩])
  (.cond (.t 29)
    (.seq (.region [2] [⟨(some 2), .mv (.c (.bool false)), none⟩])
    .ret)
    .skip))
  (.seq (.region [0, 3, 4, 5] [⟨(some 5), .mv (.c (.int .i64 0)), none⟩])
  (.block 2 (.loop [0, 3, 4, 5] x84L1))))))
  (.region [0, 3] [⟨(some 13), .mv (.t 3), none⟩,
    ⟨(some 14), .bin .add (.t 13) (.c (.int .i64 1)), none⟩,
    ⟨(some 3), .mv (.t 14), none⟩])))
/-- (*gearbox/gearboxlaw01.Book).lookVal · 1 parameters, 0 captured -/
def x84 : XFun := ⟨[.tmp 2],
  (.seq (.region [0] [⟨(some 2), .mv (.c (.bool false)), none⟩])
  (.seq (.seq (.region [0, 3] [⟨(some 3), .mv (.c (.int .i64 0)), none⟩])
  (.block 0 (.loop [0, 3] x84L2)))
  (.seq (.region [2] [⟨(some 2), .mv (.c (.bool true)), none⟩])
  .ret)))⟩

def x78L1 : XCode :=
  (.seq (.seq (.region [0, 3, 4, 5, 34] [⟨(some 30), .mv (.t 5), none⟩,
    ⟨(some 31), .fieldA 1 (.t 4), none⟩,
    ⟨(some 32), .load none (.t 31), none⟩,
    ⟨(some 33), .len (.t 32), none⟩,
    ⟨(some 34), .bin .lss (.t 30) (.t 33), none⟩])
  (.cond (.t 34)
    .skip
    (.exit 2)))
  (.seq (.block 3 (.seq (.region [0, 3, 4, 5, 63] [⟨(some 37), .fieldA 1 (.t 4), none⟩,
    ⟨(some 38), .load none (.t 37), none⟩,
    ⟨(some 39), .mv (.t 5), none⟩,
    ⟨(some 40), .idxA 5 (.t 38) (.t 39), none⟩,
    ⟨(some 41), .load (some 5) (.t 40), none⟩,
    ⟨(some 42), .fieldA 2 (.t 4), none⟩,
    ⟨(some 43), .load none (.t 42), none⟩,
    ⟨(some 44), .call .view 394 [(.t 41), (.t 43)], none⟩,
    ⟨(some 45), .un .not (.t 44), none⟩,
    ⟨(some 46), .mv (.t 45), none⟩,
    ⟨(some 47), .mv (.t 5), some (46, false)⟩,
    ⟨(some 48), .fieldA 0 (.t 4), some (46, false)⟩,
    ⟨(some 49), .load none (.t 48), some (46, false)⟩,
    ⟨(some 50), .len (.t 49), some (46, false)⟩,
    ⟨(some 51), .bin .lss (.t 47) (.t 50), some (46, false)⟩,
    ⟨(some 52), .mv (.t 51), some (46, false)⟩,
    ⟨(some 53), .fieldA 0 (.t 4), some (52, true)⟩,
    ⟨(some 54), .load none (.t 53), some (52, true)⟩,
    ⟨(some 55), .mv (.t 5), some (52, true)⟩,
    ⟨(some 56), .idxA 5 (.t 54) (.t 55), some (52, true)⟩,
    ⟨(some 57), .load (some 5) (.t 56), some (52, true)⟩,
    ⟨(some 58), .fieldA 2 (.t 4), some (52, true)⟩,
    ⟨(some 59), .load none (.t 58), some (52, true)⟩,
    ⟨(some 60), .call .view 394 [(.t 57), (.t 59)], some (52, true)⟩,
    ⟨(some 61), .un .not (.t 60), some (52, true)⟩,
    ⟨(some 62), .pick (.t 52) (.t 61) (.c (.bool false)), some (46, false)⟩,
    ⟨(some 63), .pick (.t 46) (.c (.bool true)) (.t 62), none⟩])
  (.cond (.t 63)
    (.seq (.region [2] [⟨(some 2), .mv (.c (.bool false)), none⟩])
    .ret)
    .skip)))
  (.region [0, 3, 4, 5] [⟨(some 35), .mv (.t 5), none⟩,
    ⟨(some 36), .bin .add (.t 35) (.c (.int .i64 1)), none⟩,
    ⟨(some 5), .mv (.t 36), none⟩])))
def x78L2 : XCode :=
  (.seq (.seq (.region [0, 3, 12] [⟨(some 6), .mv (.t 3), none⟩,
    ⟨(some 7), .mv (.t 0), none⟩,
    ⟨(some 8), .nilCheck (.t 7), none⟩,
    ⟨(some 9), .fieldA 5 (.t 8), none⟩,
    ⟨(some 10), .load none (.t 9), none⟩,
    ⟨(some 11), .len (.t 10), none⟩,
    ⟨(some 12), .bin .lss (.t 6) (.t 11), none⟩])
  (.cond (.t 12)
    .skip
    (.exit 0)))
  (.seq (.block 1 (.seq (.region [0, 3, 4] [⟨(some 15), .mv (.t 0), none⟩,
    ⟨(some 16), .nilCheck (.t 15), none⟩,
    ⟨(some 17), .fieldA 5 (.t 16), none⟩,
    ⟨(some 18), .load none (.t 17), none⟩,
    ⟨(some 19), .mv (.t 3), none⟩,
    ⟨(some 20), .idxA 3 (.t 18) (.t 19), none⟩,
    ⟨(some 21), .load (some 3) (.t 20), none⟩,
    ⟨(some 4), .alloc [(.slice none 0 0), (.slice none 0 0), (.int .i64 0)], none⟩,
    ⟨none, .store 3 (.t 4) (.t 21), none⟩])
  (.seq (.seq (.region [0, 3, 4, 29] [⟨(some 22), .fieldA 1 (.t 4), none⟩,
    ⟨(some 23), .load none (.t 22), none⟩,
    ⟨(some 24), .len (.t 23), none⟩,
    ⟨(some 25), .fieldA 0 (.t 4), none⟩,
    ⟨(some 26), .load none (.t 25), none⟩,
    ⟨(some 27), .len (.t 26), none⟩,
    ⟨(some 28), .bin .add (.t 27) (.c (.int .i64 40)), none⟩,
    ⟨(some 29), .bin .neq (.t 24) (.t 28), none⟩])
  (.cond (.t 29)
    (.seq (.region [2] [⟨(some 2), .mv (.c (.bool false)), none⟩])
    .ret)
    .skip))
  (.seq (.region [0, 3, 4, 5] [⟨(some 5), .mv (.c (.int .i64 0)), none⟩])
  (.block 2 (.loop [0, 3, 4, 5] x78L1))))))
  (.region [0, 3] [⟨(some 13), .mv (.t 3), none⟩,
    ⟨(some 14), .bin .add (.t 13) (.c (.int .i64 1)), none⟩,
    ⟨(some 3), .mv (.t 14), none⟩])))
/-- (*gearbox/gearboxlaw01.Book).lookObj · 1 parameters, 0 captured -/
def x78 : XFun := ⟨[.tmp 2],
  (.seq (.region [0] [⟨(some 2), .mv (.c (.bool false)), none⟩])
  (.seq (.seq (.region [0, 3] [⟨(some 3), .mv (.c (.int .i64 0)), none⟩])
  (.block 0 (.loop [0, 3] x78L2)))
  (.seq (.region [2] [⟨(some 2), .mv (.c (.bool true)), none⟩])
  .ret)))⟩

def x74L1 : XCode :=
  (.seq (.seq (.region [0, 3, 4, 5, 34] [⟨(some 30), .mv (.t 5), none⟩,
    ⟨(some 31), .fieldA 1 (.t 4), none⟩,
    ⟨(some 32), .load none (.t 31), none⟩,
    ⟨(some 33), .len (.t 32), none⟩,
    ⟨(some 34), .bin .lss (.t 30) (.t 33), none⟩])
  (.cond (.t 34)
    .skip
    (.exit 2)))
  (.seq (.block 3 (.seq (.region [0, 3, 4, 5, 63] [⟨(some 37), .fieldA 1 (.t 4), none⟩,
    ⟨(some 38), .load none (.t 37), none⟩,
    ⟨(some 39), .mv (.t 5), none⟩,
    ⟨(some 40), .idxA 2 (.t 38) (.t 39), none⟩,
    ⟨(some 41), .load (some 2) (.t 40), none⟩,
    ⟨(some 42), .fieldA 2 (.t 4), none⟩,
    ⟨(some 43), .load none (.t 42), none⟩,
    ⟨(some 44), .call .view 390 [(.t 41), (.t 43)], none⟩,
    ⟨(some 45), .un .not (.t 44), none⟩,
    ⟨(some 46), .mv (.t 45), none⟩,
    ⟨(some 47), .mv (.t 5), some (46, false)⟩,
    ⟨(some 48), .fieldA 0 (.t 4), some (46, false)⟩,
    ⟨(some 49), .load none (.t 48), some (46, false)⟩,
    ⟨(some 50), .len (.t 49), some (46, false)⟩,
    ⟨(some 51), .bin .lss (.t 47) (.t 50), some (46, false)⟩,
    ⟨(some 52), .mv (.t 51), some (46, false)⟩,
    ⟨(some 53), .fieldA 0 (.t 4), some (52, true)⟩,
    ⟨(some 54), .load none (.t 53), some (52, true)⟩,
    ⟨(some 55), .mv (.t 5), some (52, true)⟩,
    ⟨(some 56), .idxA 2 (.t 54) (.t 55), some (52, true)⟩,
    ⟨(some 57), .load (some 2) (.t 56), some (52, true)⟩,
    ⟨(some 58), .fieldA 2 (.t 4), some (52, true)⟩,
    ⟨(some 59), .load none (.t 58), some (52, true)⟩,
    ⟨(some 60), .call .view 390 [(.t 57), (.t 59)], some (52, true)⟩,
    ⟨(some 61), .un .not (.t 60), some (52, true)⟩,
    ⟨(some 62), .pick (.t 52) (.t 61) (.c (.bool false)), some (46, false)⟩,
    ⟨(some 63), .pick (.t 46) (.c (.bool true)) (.t 62), none⟩])
  (.cond (.t 63)
    (.seq (.region [2] [⟨(some 2), .mv (.c (.bool false)), none⟩])
    .ret)
    .skip)))
  (.region [0, 3, 4, 5] [⟨(some 35), .mv (.t 5), none⟩,
    ⟨(some 36), .bin .add (.t 35) (.c (.int .i64 1)), none⟩,
    ⟨(some 5), .mv (.t 36), none⟩])))
def x74L2 : XCode :=
  (.seq (.seq (.region [0, 3, 12] [⟨(some 6), .mv (.t 3), none⟩,
    ⟨(some 7), .mv (.t 0), none⟩,
    ⟨(some 8), .nilCheck (.t 7), none⟩,
    ⟨(some 9), .fieldA 6 (.t 8), none⟩,
    ⟨(some 10), .load none (.t 9), none⟩,
    ⟨(some 11), .len (.t 10), none⟩,
    ⟨(some 12), .bin .lss (.t 6) (.t 11), none⟩])
  (.cond (.t 12)
    .skip
    (.exit 0)))
  (.seq (.block 1 (.seq (.region [0, 3, 4] [⟨(some 15), .mv (.t 0), none⟩,
    ⟨(some 16), .nilCheck (.t 15), none⟩,
    ⟨(some 17), .fieldA 6 (.t 16), none⟩,
    ⟨(some 18), .load none (.t 17), none⟩,
    ⟨(some 19), .mv (.t 3), none⟩,
    ⟨(some 20), .idxA 3 (.t 18) (.t 19), none⟩,
    ⟨(some 21), .load (some 3) (.t 20), none⟩,
    ⟨(some 4), .alloc [(.slice none 0 0), (.slice none 0 0), (.int .i64 0)], none⟩,
    ⟨none, .store 3 (.t 4) (.t 21), none⟩])
  (.seq (.seq (.region [0, 3, 4, 29] [⟨(some 22), .fieldA 1 (.t 4), none⟩,
    ⟨(some 23), .load none (.t 22), none⟩,
    ⟨(some 24), .len (.t 23), none⟩,
    ⟨(some 25), .fieldA 0 (.t 4), none⟩,
    ⟨(some 26), .load none (.t 25), none⟩,
    ⟨(some 27), .len (.t 26), none⟩,
    ⟨(some 28), .bin .add (.t 27) (.c (.int .i64 40)), none⟩,
    ⟨(some 29), .bin .neq (.t 24) (.t 28), none⟩])
  (.cond (.t 29)
    (.seq (.region [2] [⟨(some 2), .mv (.c (.bool false)), none⟩])
    .ret)
    .skip))
  (.seq (.region [0, 3, 4, 5] [⟨(some 5), .mv (.c (.int .i64 0)), none⟩])
  (.block 2 (.loop [0, 3, 4, 5] x74L1))))))
  (.region [0, 3] [⟨(some 13), .mv (.t 3), none⟩,
    ⟨(some 14), .bin .add (.t 13) (.c (.int .i64 1)), none⟩,
    ⟨(some 3), .mv (.t 14), none⟩])))
/-- (*gearbox/gearboxlaw01.Book).lookIns · 1 parameters, 0 captured -/
def x74 : XFun := ⟨[.tmp 2],
  (.seq (.region [0] [⟨(some 2), .mv (.c (.bool false)), none⟩])
  (.seq (.seq (.region [0, 3] [⟨(some 3), .mv (.c (.int .i64 0)), none⟩])
  (.block 0 (.loop [0, 3] x74L2)))
  (.seq (.region [2] [⟨(some 2), .mv (.c (.bool true)), none⟩])
  .ret)))⟩

def x68L1 : XCode :=
  (.seq (.seq (.region [0, 3, 4, 5, 34] [⟨(some 30), .mv (.t 5), none⟩,
    ⟨(some 31), .fieldA 1 (.t 4), none⟩,
    ⟨(some 32), .load none (.t 31), none⟩,
    ⟨(some 33), .len (.t 32), none⟩,
    ⟨(some 34), .bin .lss (.t 30) (.t 33), none⟩])
  (.cond (.t 34)
    .skip
    (.exit 2)))
  (.seq (.block 3 (.seq (.region [0, 3, 4, 5, 63] [⟨(some 37), .fieldA 1 (.t 4), none⟩,
    ⟨(some 38), .load none (.t 37), none⟩,
    ⟨(some 39), .mv (.t 5), none⟩,
    ⟨(some 40), .idxA 3 (.t 38) (.t 39), none⟩,
    ⟨(some 41), .load (some 3) (.t 40), none⟩,
    ⟨(some 42), .fieldA 2 (.t 4), none⟩,
    ⟨(some 43), .load none (.t 42), none⟩,
    ⟨(some 44), .call .view 384 [(.t 41), (.t 43)], none⟩,
    ⟨(some 45), .un .not (.t 44), none⟩,
    ⟨(some 46), .mv (.t 45), none⟩,
    ⟨(some 47), .mv (.t 5), some (46, false)⟩,
    ⟨(some 48), .fieldA 0 (.t 4), some (46, false)⟩,
    ⟨(some 49), .load none (.t 48), some (46, false)⟩,
    ⟨(some 50), .len (.t 49), some (46, false)⟩,
    ⟨(some 51), .bin .lss (.t 47) (.t 50), some (46, false)⟩,
    ⟨(some 52), .mv (.t 51), some (46, false)⟩,
    ⟨(some 53), .fieldA 0 (.t 4), some (52, true)⟩,
    ⟨(some 54), .load none (.t 53), some (52, true)⟩,
    ⟨(some 55), .mv (.t 5), some (52, true)⟩,
    ⟨(some 56), .idxA 3 (.t 54) (.t 55), some (52, true)⟩,
    ⟨(some 57), .load (some 3) (.t 56), some (52, true)⟩,
    ⟨(some 58), .fieldA 2 (.t 4), some (52, true)⟩,
    ⟨(some 59), .load none (.t 58), some (52, true)⟩,
    ⟨(some 60), .call .view 384 [(.t 57), (.t 59)], some (52, true)⟩,
    ⟨(some 61), .un .not (.t 60), some (52, true)⟩,
    ⟨(some 62), .pick (.t 52) (.t 61) (.c (.bool false)), some (46, false)⟩,
    ⟨(some 63), .pick (.t 46) (.c (.bool true)) (.t 62), none⟩])
  (.cond (.t 63)
    (.seq (.region [2] [⟨(some 2), .mv (.c (.bool false)), none⟩])
    .ret)
    .skip)))
  (.region [0, 3, 4, 5] [⟨(some 35), .mv (.t 5), none⟩,
    ⟨(some 36), .bin .add (.t 35) (.c (.int .i64 1)), none⟩,
    ⟨(some 5), .mv (.t 36), none⟩])))
def x68L2 : XCode :=
  (.seq (.seq (.region [0, 3, 12] [⟨(some 6), .mv (.t 3), none⟩,
    ⟨(some 7), .mv (.t 0), none⟩,
    ⟨(some 8), .nilCheck (.t 7), none⟩,
    ⟨(some 9), .fieldA 7 (.t 8), none⟩,
    ⟨(some 10), .load none (.t 9), none⟩,
    ⟨(some 11), .len (.t 10), none⟩,
    ⟨(some 12), .bin .lss (.t 6) (.t 11), none⟩])
  (.cond (.t 12)
    .skip
    (.exit 0)))
  (.seq (.block 1 (.seq (.region [0, 3, 4] [⟨(some 15), .mv (.t 0), none⟩,
    ⟨(some 16), .nilCheck (.t 15), none⟩,
    ⟨(some 17), .fieldA 7 (.t 16), none⟩,
    ⟨(some 18), .load none (.t 17), none⟩,
    ⟨(some 19), .mv (.t 3), none⟩,
    ⟨(some 20), .idxA 3 (.t 18) (.t 19), none⟩,
    ⟨(some 21), .load (some 3) (.t 20), none⟩,
    ⟨(some 4), .alloc [(.slice none 0 0), (.slice none 0 0), (.int .i64 0)], none⟩,
    ⟨none, .store 3 (.t 4) (.t 21), none⟩])
  (.seq (.seq (.region [0, 3, 4, 29] [⟨(some 22), .fieldA 1 (.t 4), none⟩,
    ⟨(some 23), .load none (.t 22), none⟩,
    ⟨(some 24), .len (.t 23), none⟩,
    ⟨(some 25), .fieldA 0 (.t 4), none⟩,
    ⟨(some 26), .load none (.t 25), none⟩,
    ⟨(some 27), .len (.t 26), none⟩,
    ⟨(some 28), .bin .add (.t 27) (.c (.int .i64 40)), none⟩,
    ⟨(some 29), .bin .neq (.t 24) (.t 28), none⟩])
  (.cond (.t 29)
    (.seq (.region [2] [⟨(some 2), .mv (.c (.bool false)), none⟩])
    .ret)
    .skip))
  (.seq (.region [0, 3, 4, 5] [⟨(some 5), .mv (.c (.int .i64 0)), none⟩])
  (.block 2 (.loop [0, 3, 4, 5] x68L1))))))
  (.region [0, 3] [⟨(some 13), .mv (.t 3), none⟩,
    ⟨(some 14), .bin .add (.t 13) (.c (.int .i64 1)), none⟩,
    ⟨(some 3), .mv (.t 14), none⟩])))
/-- (*gearbox/gearboxlaw01.Book).lookConst · 1 parameters, 0 captured -/
def x68 : XFun := ⟨[.tmp 2],
  (.seq (.region [0] [⟨(some 2), .mv (.c (.bool false)), none⟩])
  (.seq (.seq (.region [0, 3] [⟨(some 3), .mv (.c (.int .i64 0)), none⟩])
  (.block 0 (.loop [0, 3] x68L2)))
  (.seq (.region [2] [⟨(some 2), .mv (.c (.bool true)), none⟩])
  .ret)))⟩

def x67L1 : XCode :=
  (.seq (.seq (.region [0, 3, 4, 5, 34] [⟨(some 30), .mv (.t 5), none⟩,
    ⟨(some 31), .fieldA 1 (.t 4), none⟩,
    ⟨(some 32), .load none (.t 31), none⟩,
    ⟨(some 33), .len (.t 32), none⟩,
    ⟨(some 34), .bin .lss (.t 30) (.t 33), none⟩])
  (.cond (.t 34)
    .skip
    (.exit 2)))
  (.seq (.block 3 (.seq (.region [0, 3, 4, 5, 63] [⟨(some 37), .fieldA 1 (.t 4), none⟩,
    ⟨(some 38), .load none (.t 37), none⟩,
    ⟨(some 39), .mv (.t 5), none⟩,
    ⟨(some 40), .idxA 2 (.t 38) (.t 39), none⟩,
    ⟨(some 41), .load (some 2) (.t 40), none⟩,
    ⟨(some 42), .fieldA 2 (.t 4), none⟩,
    ⟨(some 43), .load none (.t 42), none⟩,
    ⟨(some 44), .call .view 383 [(.t 41), (.t 43)], none⟩,
    ⟨(some 45), .un .not (.t 44), none⟩,
    ⟨(some 46), .mv (.t 45), none⟩,
    ⟨(some 47), .mv (.t 5), some (46, false)⟩,
    ⟨(some 48), .fieldA 0 (.t 4), some (46, false)⟩,
    ⟨(some 49), .load none (.t 48), some (46, false)⟩,
    ⟨(some 50), .len (.t 49), some (46, false)⟩,
    ⟨(some 51), .bin .lss (.t 47) (.t 50), some (46, false)⟩,
    ⟨(some 52), .mv (.t 51), some (46, false)⟩,
    ⟨(some 53), .fieldA 0 (.t 4), some (52, true)⟩,
    ⟨(some 54), .load none (.t 53), some (52, true)⟩,
    ⟨(some 55), .mv (.t 5), some (52, true)⟩,
    ⟨(some 56), .idxA 2 (.t 54) (.t 55), some (52, true)⟩,
    ⟨(some 57), .load (some 2) (.t 56), some (52, true)⟩,
    ⟨(some 58), .fieldA 2 (.t 4), some (52, true)⟩,
    ⟨(some 59), .load none (.t 58), some (52, true)⟩,
    ⟨(some 60), .call .view 383 [(.t 57), (.t 59)], some (52, true)⟩,
    ⟨(some 61), .un .not (.t 60), some (52, true)⟩,
    ⟨(some 62), .pick (.t 52) (.t 61) (.c (.bool false)), some (46, false)⟩,
    ⟨(some 63), .pick (.t 46) (.c (.bool true)) (.t 62), none⟩])
  (.cond (.t 63)
    (.seq (.region [2] [⟨(some 2), .mv (.c (.bool false)), none⟩])
    .ret)
    .skip)))
  (.region [0, 3, 4, 5] [⟨(some 35), .mv (.t 5), none⟩,
    ⟨(some 36), .bin .add (.t 35) (.c (.int .i64 1)), none⟩,
    ⟨(some 5), .mv (.t 36), none⟩])))
def x67L2 : XCode :=
  (.seq (.seq (.region [0, 3, 12] [⟨(some 6), .mv (.t 3), none⟩,
    ⟨(some 7), .mv (.t 0), none⟩,
    ⟨(some 8), .nilCheck (.t 7), none⟩,
    ⟨(some 9), .fieldA 8 (.t 8), none⟩,
    ⟨(some 10), .load none (.t 9), none⟩,
    ⟨(some 11), .len (.t 10), none⟩,
    ⟨(some 12), .bin .lss (.t 6) (.t 11), none⟩])
  (.cond (.t 12)
    .skip
    (.exit 0)))
  (.seq (.block 1 (.seq (.region [0, 3, 4] [⟨(some 15), .mv (.t 0), none⟩,
    ⟨(some 16), .nilCheck (.t 15), none⟩,
    ⟨(some 17), .fieldA 8 (.t 16), none⟩,
    ⟨(some 18), .load none (.t 17), none⟩,
    ⟨(some 19), .mv (.t 3), none⟩,
    ⟨(some 20), .idxA 3 (.t 18) (.t 19), none⟩,
    ⟨(some 21), .load (some 3) (.t 20), none⟩,
    ⟨(some 4), .alloc [(.slice none 0 0), (.slice none 0 0), (.int .i64 0)], none⟩,
    ⟨none, .store 3 (.t 4) (.t 21), none⟩])
  (.seq (.seq (.region [0, 3, 4, 29] [⟨(some 22), .fieldA 1 (.t 4), none⟩,
    ⟨(some 23), .load none (.t 22), none⟩,
    ⟨(some 24), .len (.t 23), none⟩,
    ⟨(some 25), .fieldA 0 (.t 4), none⟩,
    ⟨(some 26), .load none (.t 25), none⟩,
    ⟨(some 27), .len (.t 26), none⟩,
    ⟨(some 28), .bin .add (.t 27) (.c (.int .i64 40)), none⟩,
    ⟨(some 29), .bin .neq (.t 24) (.t 28), none⟩])
  (.cond (.t 29)
    (.seq (.region [2] [⟨(some 2), .mv (.c (.bool false)), none⟩])
    .ret)
    .skip))
  (.seq (.region [0, 3, 4, 5] [⟨(some 5), .mv (.c (.int .i64 0)), none⟩])
  (.block 2 (.loop [0, 3, 4, 5] x67L1))))))
  (.region [0, 3] [⟨(some 13), .mv (.t 3), none⟩,
    ⟨(some 14), .bin .add (.t 13) (.c (.int .i64 1)), none⟩,
    ⟨(some 3), .mv (.t 14), none⟩])))
/-- (*gearbox/gearboxlaw01.Book).lookCap · 1 parameters, 0 captured -/
def x67 : XFun := ⟨[.tmp 2],
  (.seq (.region [0] [⟨(some 2), .mv (.c (.bool false)), none⟩])
  (.seq (.seq (.region [0, 3] [⟨(some 3), .mv (.c (.int .i64 0)), none⟩])
  (.block 0 (.loop [0, 3] x67L2)))
  (.seq (.region [2] [⟨(some 2), .mv (.c (.bool true)), none⟩])
  .ret)))⟩

def x73L1 : XCode :=
  (.seq (.seq (.region [0, 3, 4, 5, 34] [⟨(some 30), .mv (.t 5), none⟩,
    ⟨(some 31), .fieldA 1 (.t 4), none⟩,
    ⟨(some 32), .load none (.t 31), none⟩,
    ⟨(some 33), .len (.t 32), none⟩,
    ⟨(some 34), .bin .lss (.t 30) (.t 33), none⟩])
  (.cond (.t 34)
    .skip
    (.exit 2)))
  (.seq (.block 3 (.seq (.region [0, 3, 4, 5, 63] [⟨(some 37), .fieldA 1 (.t 4), none⟩,
    ⟨(some 38), .load none (.t 37), none⟩,
    ⟨(some 39), .mv (.t 5), none⟩,
    ⟨(some 40), .idxA 4 (.t 38) (.t 39), none⟩,
    ⟨(some 41), .load (some 4) (.t 40), none⟩,
    ⟨(some 42), .fieldA 2 (.t 4), none⟩,
    ⟨(some 43), .load none (.t 42), none⟩,
    ⟨(some 44), .call .view 389 [(.t 41), (.t 43)], none⟩,
    ⟨(some 45), .un .not (.t 44), none⟩,
    ⟨(some 46), .mv (.t 45), none⟩,
    ⟨(some 47), .mv (.t 5), some (46, false)⟩,
    ⟨(some 48), .fieldA 0 (.t 4), some (46, false)⟩,
    ⟨(some 49), .load none (.t 48), some (46, false)⟩,
    ⟨(some 50), .len (.t 49), some (46, false)⟩,
    ⟨(some 51), .bin .lss (.t 47) (.t 50), some (46, false)⟩,
    ⟨(some 52), .mv (.t 51), some (46, false)⟩,
    ⟨(some 53), .fieldA 0 (.t 4), some (52, true)⟩,
    ⟨(some 54), .load none (.t 53), some (52, true)⟩,
    ⟨(some 55), .mv (.t 5), some (52, true)⟩,
    ⟨(some 56), .idxA 4 (.t 54) (.t 55), some (52, true)⟩,
    ⟨(some 57), .load (some 4) (.t 56), some (52, true)⟩,
    ⟨(some 58), .fieldA 2 (.t 4), some (52, true)⟩,
    ⟨(some 59), .load none (.t 58), some (52, true)⟩,
    ⟨(some 60), .call .view 389 [(.t 57), (.t 59)], some (52, true)⟩,
    ⟨(some 61), .un .not (.t 60), some (52, true)⟩,
    ⟨(some 62), .pick (.t 52) (.t 61) (.c (.bool false)), some (46, false)⟩,
    ⟨(some 63), .pick (.t 46) (.c (.bool true)) (.t 62), none⟩])
  (.cond (.t 63)
    (.seq (.region [2] [⟨(some 2), .mv (.c (.bool false)), none⟩])
    .ret)
    .skip)))
  (.region [0, 3, 4, 5] [⟨(some 35), .mv (.t 5), none⟩,
    ⟨(some 36), .bin .add (.t 35) (.c (.int .i64 1)), none⟩,
    ⟨(some 5), .mv (.t 36), none⟩])))
def x73L2 : XCode :=
  (.seq (.seq (.region [0, 3, 12] [⟨(some 6), .mv (.t 3), none⟩,
    ⟨(some 7), .mv (.t 0), none⟩,
    ⟨(some 8), .nilCheck (.t 7), none⟩,
    ⟨(some 9), .fieldA 9 (.t 8), none⟩,
    ⟨(some 10), .load none (.t 9), none⟩,
    ⟨(some 11), .len (.t 10), none⟩,
    ⟨(some 12), .bin .lss (.t 6) (.t 11), none⟩])
  (.cond (.t 12)
    .skip
    (.exit 0)))
  (.seq (.block 1 (.seq (.region [0, 3, 4] [⟨(some 15), .mv (.t 0), none⟩,
    ⟨(some 16), .nilCheck (.t 15), none⟩,
    ⟨(some 17), .fieldA 9 (.t 16), none⟩,
    ⟨(some 18), .load none (.t 17), none⟩,
    ⟨(some 19), .mv (.t 3), none⟩,
    ⟨(some 20), .idxA 3 (.t 18) (.t 19), none⟩,
    ⟨(some 21), .load (some 3) (.t 20), none⟩,
    ⟨(some 4), .alloc [(.slice none 0 0), (.slice none 0 0), (.int .i64 0)], none⟩,
    ⟨none, .store 3 (.t 4) (.t 21), none⟩])
  (.seq (.seq (.region [0, 3, 4, 29] [⟨(some 22), .fieldA 1 (.t 4), none⟩,
    ⟨(some 23), .load none (.t 22), none⟩,
    ⟨(some 24), .len (.t 23), none⟩,
    ⟨(some 25), .fieldA 0 (.t 4), none⟩,
    ⟨(some 26), .load none (.t 25), none⟩,
    ⟨(some 27), .len (.t 26), none⟩,
    ⟨(some 28), .bin .add (.t 27) (.c (.int .i64 40)), none⟩,
    ⟨(some 29), .bin .neq (.t 24) (.t 28), none⟩])
  (.cond (.t 29)
    (.seq (.region [2] [⟨(some 2), .mv (.c (.bool false)), none⟩])
    .ret)
    .skip))
  (.seq (.region [0, 3, 4, 5] [⟨(some 5), .mv (.c (.int .i64 0)), none⟩])
  (.block 2 (.loop [0, 3, 4, 5] x73L1))))))
  (.region [0, 3] [⟨(some 13), .mv (.t 3), none⟩,
    ⟨(some 14), .bin .add (.t 13) (.c (.int .i64 1)), none⟩,
    ⟨(some 3), .mv (.t 14), none⟩])))
/-- (*gearbox/gearboxlaw01.Book).lookHandler · 1 parameters, 0 captured -/
def x73 : XFun := ⟨[.tmp 2],
  (.seq (.region [0] [⟨(some 2), .mv (.c (.bool false)), none⟩])
  (.seq (.seq (.region [0, 3] [⟨(some 3), .mv (.c (.int .i64 0)), none⟩])
  (.block 0 (.loop [0, 3] x73L2)))
  (.seq (.region [2] [⟨(some 2), .mv (.c (.bool true)), none⟩])
  .ret)))⟩

def x72L1 : XCode :=
  (.seq (.seq (.region [0, 3, 4, 5, 34] [⟨(some 30), .mv (.t 5), none⟩,
    ⟨(some 31), .fieldA 1 (.t 4), none⟩,
    ⟨(some 32), .load none (.t 31), none⟩,
    ⟨(some 33), .len (.t 32), none⟩,
    ⟨(some 34), .bin .lss (.t 30) (.t 33), none⟩])
  (.cond (.t 34)
    .skip
    (.exit 2)))
  (.seq (.block 3 (.seq (.region [0, 3, 4, 5, 63] [⟨(some 37), .fieldA 1 (.t 4), none⟩,
    ⟨(some 38), .load none (.t 37), none⟩,
    ⟨(some 39), .mv (.t 5), none⟩,
    ⟨(some 40), .idxA 8 (.t 38) (.t 39), none⟩,
    ⟨(some 41), .load (some 8) (.t 40), none⟩,
    ⟨(some 42), .fieldA 2 (.t 4), none⟩,
    ⟨(some 43), .load none (.t 42), none⟩,
    ⟨(some 44), .call .view 388 [(.t 41), (.t 43)], none⟩,
    ⟨(some 45), .un .not (.t 44), none⟩,
    ⟨(some 46), .mv (.t 45), none⟩,
    ⟨(some 47), .mv (.t 5), some (46, false)⟩,
    ⟨(some 48), .fieldA 0 (.t 4), some (46, false)⟩,
    ⟨(some 49), .load none (.t 48), some (46, false)⟩,
    ⟨(some 50), .len (.t 49), some (46, false)⟩,
    ⟨(some 51), .bin .lss (.t 47) (.t 50), some (46, false)⟩,
    ⟨(some 52), .mv (.t 51), some (46, false)⟩,
    ⟨(some 53), .fieldA 0 (.t 4), some (52, true)⟩,
    ⟨(some 54), .load none (.t 53), some (52, true)⟩,
    ⟨(some 55), .mv (.t 5), some (52, true)⟩,
    ⟨(some 56), .idxA 8 (.t 54) (.t 55), some (52, true)⟩,
    ⟨(some 57), .load (some 8) (.t 56), some (52, true)⟩,
    ⟨(some 58), .fieldA 2 (.t 4), some (52, true)⟩,
    ⟨(some 59), .load none (.t 58), some (52, true)⟩,
    ⟨(some 60), .call .view 388 [(.t 57), (.t 59)], some (52, true)⟩,
    ⟨(some 61), .un .not (.t 60), some (52, true)⟩,
    ⟨(some 62), .pick (.t 52) (.t 61) (.c (.bool false)), some (46, false)⟩,
    ⟨(some 63), .pick (.t 46) (.c (.bool true)) (.t 62), none⟩])
  (.cond (.t 63)
    (.seq (.region [2] [⟨(some 2), .mv (.c (.bool false)), none⟩])
    .ret)
    .skip)))
  (.region [0, 3, 4, 5] [⟨(some 35), .mv (.t 5), none⟩,
    ⟨(some 36), .bin .add (.t 35) (.c (.int .i64 1)), none⟩,
    ⟨(some 5), .mv (.t 36), none⟩])))
def x72L2 : XCode :=
  (.seq (.seq (.region [0, 3, 12] [⟨(some 6), .mv (.t 3), none⟩,
    ⟨(some 7), .mv (.t 0), none⟩,
    ⟨(some 8), .nilCheck (.t 7), none⟩,
    ⟨(some 9), .fieldA 10 (.t 8), none⟩,
    ⟨(some 10), .load none (.t 9), none⟩,
    ⟨(some 11), .len (.t 10), none⟩,
    ⟨(some 12), .bin .lss (.t 6) (.t 11), none⟩])
  (.cond (.t 12)
    .skip
    (.exit 0)))
  (.seq (.block 1 (.seq (.region [0, 3, 4] [⟨(some 15), .mv (.t 0), none⟩,
    ⟨(some 16), .nilCheck (.t 15), none⟩,
    ⟨(some 17), .fieldA 10 (.t 16), none⟩,
    ⟨(some 18), .load none (.t 17), none⟩,
    ⟨(some 19), .mv (.t 3), none⟩,
    ⟨(some 20), .idxA 3 (.t 18) (.t 19), none⟩,
    ⟨(some 21), .load (some 3) (.t 20), none⟩,
    ⟨(some 4), .alloc [(.slice none 0 0), (.slice none 0 0), (.int .i64 0)], none⟩,
    ⟨none, .store 3 (.t 4) (.t 21), none⟩])
  (.seq (.seq (.region [0, 3, 4, 29] [⟨(some 22), .fieldA 1 (.t 4), none⟩,
    ⟨(some 23), .load none (.t 22), none⟩,
    ⟨(some 24), .len (.t 23), none⟩,
    ⟨(some 25), .fieldA 0 (.t 4), none⟩,
    ⟨(some 26), .load none (.t 25), none⟩,
    ⟨(some 27), .len (.t 26), none⟩,
    ⟨(some 28), .bin .add (.t 27) (.c (.int .i64 40)), none⟩,
    ⟨(some 29), .bin .neq (.t 24) (.t 28), none⟩])
  (.cond (.t 29)
    (.seq (.region [2] [⟨(some 2), .mv (.c (.bool false)), none⟩])
    .ret)
    .skip))
  (.seq (.region [0, 3, 4, 5] [⟨(some 5), .mv (.c (.int .i64 0)), none⟩])
  (.block 2 (.loop [0, 3, 4, 5] x72L1))))))
  (.region [0, 3] [⟨(some 13), .mv (.t 3), none⟩,
    ⟨(some 14), .bin .add (.t 13) (.c (.int .i64 1)), none⟩,
    ⟨(some 3), .mv (.t 14), none⟩])))
/-- (*gearbox/gearboxlaw01.Book).lookFn · 1 parameters, 0 captured -/
def x72 : XFun := ⟨[.tmp 2],
  (.seq (.region [0] [⟨(some 2), .mv (.c (.bool false)), none⟩])
  (.seq (.seq (.region [0, 3] [⟨(some 3), .mv (.c (.int .i64 0)), none⟩])
  (.block 0 (.loop [0, 3] x72L2)))
  (.seq (.region [2] [⟨(some 2), .mv (.c (.bool true)), none⟩])
  .ret)))⟩

def x71L1 : XCode :=
  (.seq (.seq (.region [0, 3, 4, 5, 34] [⟨(some 30), .mv (.t 5), none⟩,
    ⟨(some 31), .fieldA 1 (.t 4), none⟩,
    ⟨(some 32), .load none (.t 31), none⟩,
    ⟨(some 33), .len (.t 32), none⟩,
    ⟨(some 34), .bin .lss (.t 30) (.t 33), none⟩])
  (.cond (.t 34)
    .skip
    (.exit 2)))
  (.seq (.block 3 (.seq (.region [0, 3, 4, 5, 63] [⟨(some 37), .fieldA 1 (.t 4), none⟩,
    ⟨(some 38), .load none (.t 37), none⟩,
    ⟨(some 39), .mv (.t 5), none⟩,
    ⟨(some 40), .idxA 7 (.t 38) (.t 39), none⟩,
    ⟨(some 41), .load (some 7) (.t 40), none⟩,
    ⟨(some 42), .fieldA 2 (.t 4), none⟩,
    ⟨(some 43), .load none (.t 42), none⟩,
    ⟨(some 44), .call .view 387 [(.t 41), (.t 43)], none⟩,
    ⟨(some 45), .un .not (.t 44), none⟩,
    ⟨(some 46), .mv (.t 45), none⟩,
    ⟨(some 47), .mv (.t 5), some (46, false)⟩,
    ⟨(some 48), .fieldA 0 (.t 4), some (46, false)⟩,
    ⟨(some 49), .load none (.t 48), some (46, false)⟩,
    ⟨(some 50), .len (.t 49), some (46, false)⟩,
    ⟨(some 51), .bin .lss (.t 47) (.t 50), some (46, false)⟩,
    ⟨(some 52), .mv (.t 51), some (46, false)⟩,
    ⟨(some 53), .fieldA 0 (.t 4), some (52, true)⟩,
    ⟨(some 54), .load none (.t 53), some (52, true)⟩,
    ⟨(some 55), .mv (.t 5), some (52, true)⟩,
    ⟨(some 56), .idxA 7 (.t 54) (.t 55), some (52, true)⟩,
    ⟨(some 57), .load (some 7) (.t 56), some (52, true)⟩,
    ⟨(some 58), .fieldA 2 (.t 4), some (52, true)⟩,
    ⟨(some 59), .load none (.t 58), some (52, true)⟩,
    ⟨(some 60), .call .view 387 [(.t 57), (.t 59)], some (52, true)⟩,
    ⟨(some 61), .un .not (.t 60), some (52, true)⟩,
    ⟨(some 62), .pick (.t 52) (.t 61) (.c (.bool false)), some (46, false)⟩,
    ⟨(some 63), .pick (.t 46) (.c (.bool true)) (.t 62), none⟩])
  (.cond (.t 63)
    (.seq (.region [2] [⟨(some 2), .mv (.c (.bool false)), none⟩])
    .ret)
    .skip)))
  (.region [0, 3, 4, 5] [⟨(some 35), .mv (.t 5), none⟩,
    ⟨(some 36), .bin .add (.t 35) (.c (.int .i64 1)), none⟩,
    ⟨(some 5), .mv (.t 36), none⟩])))
def x71L2 : XCode :=
  (.seq (.seq (.region [0, 3, 12] [⟨(some 6), .mv (.t 3), none⟩,
    ⟨(some 7), .mv (.t 0), none⟩,
    ⟨(some 8), .nilCheck (.t 7), none⟩,
    ⟨(some 9), .fieldA 11 (.t 8), none⟩,
    ⟨(some 10), .load none (.t 9), none⟩,
    ⟨(some 11), .len (.t 10), none⟩,
    ⟨(some 12), .bin .lss (.t 6) (.t 11), none⟩])
  (.cond (.t 12)
    .skip
    (.exit 0)))
  (.seq (.block 1 (.seq (.region [0, 3, 4] [⟨(some 15), .mv (.t 0), none⟩,
    ⟨(some 16), .nilCheck (.t 15), none⟩,
    ⟨(some 17), .fieldA 11 (.t 16), none⟩,
    ⟨(some 18), .load none (.t 17), none⟩,
    ⟨(some 19), .mv (.t 3), none⟩,
    ⟨(some 20), .idxA 3 (.t 18) (.t 19), none⟩,
    ⟨(some 21), .load (some 3) (.t 20), none⟩,
    ⟨(some 4), .alloc [(.slice none 0 0), (.slice none 0 0), (.int .i64 0)], none⟩,
    ⟨none, .store 3 (.t 4) (.t 21), none⟩])
  (.seq (.seq (.region [0, 3, 4, 29] [⟨(some 22), .fieldA 1 (.t 4), none⟩,
    ⟨(some 23), .load none (.t 22), none⟩,
    ⟨(some 24), .len (.t 23), none⟩,
    ⟨(some 25), .fieldA 0 (.t 4), none⟩,
    ⟨(some 26), .load none (.t 25), none⟩,
    ⟨(some 27), .len (.t 26), none⟩,
    ⟨(some 28), .bin .add (.t 27) (.c (.int .i64 40)), none⟩,
    ⟨(some 29), .bin .neq (.t 24) (.t 28), none⟩])
  (.cond (.t 29)
    (.seq (.region [2] [⟨(some 2), .mv (.c (.bool false)), none⟩])
    .ret)
    .skip))
  (.seq (.region [0, 3, 4, 5] [⟨(some 5), .mv (.c (.int .i64 0)), none⟩])
  (.block 2 (.loop [0, 3, 4, 5] x71L1))))))
  (.region [0, 3] [⟨(some 13), .mv (.t 3), none⟩,
    ⟨(some 14), .bin .add (.t 13) (.c (.int .i64 1)), none⟩,
    ⟨(some 3), .mv (.t 14), none⟩])))
/-- (*gearbox/gearboxlaw01.Book).lookExpr · 1 parameters, 0 captured -/
def x71 : XFun := ⟨[.tmp 2],
  (.seq (.region [0] [⟨(some 2), .mv (.c (.bool false)), none⟩])
  (.seq (.seq (.region [0, 3] [⟨(some 3), .mv (.c (.int .i64 0)), none⟩])
  (.block 0 (.loop [0, 3] x71L2)))
  (.seq (.region [2] [⟨(some 2), .mv (.c (.bool true)), none⟩])
  .ret)))⟩

def x82L1 : XCode :=
  (.seq (.seq (.region [0, 3, 4, 5, 34] [⟨(some 30), .mv (.t 5), none⟩,
    ⟨(some 31), .fieldA 1 (.t 4), none⟩,
    ⟨(some 32), .load none (.t 31), none⟩,
    ⟨(some 33), .len (.t 32), none⟩,
    ⟨(some 34), .bin .lss (.t 30) (.t 33), none⟩])
  (.cond (.t 34)
    .skip
    (.exit 2)))
  (.seq (.block 3 (.seq (.region [0, 3, 4, 5, 63] [⟨(some 37), .fieldA 1 (.t 4), none⟩,
    ⟨(some 38), .load none (.t 37), none⟩,
    ⟨(some 39), .mv (.t 5), none⟩,
    ⟨(some 40), .idxA 6 (.t 38) (.t 39), none⟩,
    ⟨(some 41), .load (some 6) (.t 40), none⟩,
    ⟨(some 42), .fieldA 2 (.t 4), none⟩,
    ⟨(some 43), .load none (.t 42), none⟩,
    ⟨(some 44), .call .view 398 [(.t 41), (.t 43)], none⟩,
    ⟨(some 45), .un .not (.t 44), none⟩,
    ⟨(some 46), .mv (.t 45), none⟩,
    ⟨(some 47), .mv (.t 5), some (46, false)⟩,
    ⟨(some 48), .fieldA 0 (.t 4), some (46, false)⟩,
    ⟨(some 49), .load none (.t 48), some (46, false)⟩,
    ⟨(some 50), .len (.t 49), some (46, false)⟩,
    ⟨(some 51), .bin .lss (.t 47) (.t 50), some (46, false)⟩,
    ⟨(some 52), .mv (.t 51), some (46, false)⟩,
    ⟨(some 53), .fieldA 0 (.t 4), some (52, true)⟩,
    ⟨(some 54), .load none (.t 53), some (52, true)⟩,
    ⟨(some 55), .mv (.t 5), some (52, true)⟩,
    ⟨(some 56), .idxA 6 (.t 54) (.t 55), some (52, true)⟩,
    ⟨(some 57), .load (some 6) (.t 56), some (52, true)⟩,
    ⟨(some 58), .fieldA 2 (.t 4), some (52, true)⟩,
    ⟨(some 59), .load none (.t 58), some (52, true)⟩,
    ⟨(some 60), .call .view 398 [(.t 57), (.t 59)], some (52, true)⟩,
    ⟨(some 61), .un .not (.t 60), some (52, true)⟩,
    ⟨(some 62), .pick (.t 52) (.t 61) (.c (.bool false)), some (46, false)⟩,
    ⟨(some 63), .pick (.t 46) (.c (.bool true)) (.t 62), none⟩])
  (.cond (.t 63)
    (.seq (.region [2] [⟨(some 2), .mv (.c (.bool false)), none⟩])
    .ret)
    .skip)))
  (.region [0, 3, 4, 5] [⟨(some 35), .mv (.t 5), none⟩,
    ⟨(some 36), .bin .add (.t 35) (.c (.int .i64 1)), none⟩,
    ⟨(some 5), .mv (.t 36), none⟩])))
def x82L2 : XCode :=
  (.seq (.seq (.region [0, 3, 12] [⟨(some 6), .mv (.t 3), none⟩,
    ⟨(some 7), .mv (.t 0), none⟩,
    ⟨(some 8), .nilCheck (.t 7), none⟩,
    ⟨(some 9), .fieldA 12 (.t 8), none⟩,
    ⟨(some 10), .load none (.t 9), none⟩,
    ⟨(some 11), .len (.t 10), none⟩,
    ⟨(some 12), .bin .lss (.t 6) (.t 11), none⟩])
  (.cond (.t 12)
    .skip
    (.exit 0)))
  (.seq (.block 1 (.seq (.region [0, 3, 4] [⟨(some 15), .mv (.t 0), none⟩,
    ⟨(some 16), .nilCheck (.t 15), none⟩,
    ⟨(some 17), .fieldA 12 (.t 16), none⟩,
    ⟨(some 18), .load none (.t 17), none⟩,
    ⟨(some 19), .mv (.t 3), none⟩,
    ⟨(some 20), .idxA 3 (.t 18) (.t 19), none⟩,
    ⟨(some 21), .load (some 3) (.t 20), none⟩,
    ⟨(some 4), .alloc [(.slice none 0 0), (.slice none 0 0), (.int .i64 0)], none⟩,
    ⟨none, .store 3 (.t 4) (.t 21), none⟩])
  (.seq (.seq (.region [0, 3, 4, 29] [⟨(some 22), .fieldA 1 (.t 4), none⟩,
    ⟨(some 23), .load none (.t 22), none⟩,
    ⟨(some 24), .len (.t 23), none⟩,
    ⟨(some 25), .fieldA 0 (.t 4), none⟩,
    ⟨(some 26), .load none (.t 25), none⟩,
    ⟨(some 27), .len (.t 26), none⟩,
    ⟨(some 28), .bin .add (.t 27) (.c (.int .i64 40)), none⟩,
    ⟨(some 29), .bin .neq (.t 24) (.t 28), none⟩])
  (.cond (.t 29)
    (.seq (.region [2] [⟨(some 2), .mv (.c (.bool false)), none⟩])
    .ret)
    .skip))
  (.seq (.region [0, 3, 4, 5] [⟨(some 5), .mv (.c (.int .i64 0)), none⟩])
  (.block 2 (.loop [0, 3, 4, 5] x82L1))))))
  (.region [0, 3] [⟨(some 13), .mv (.t 3), none⟩,
    ⟨(some 14), .bin .add (.t 13) (.c (.int .i64 1)), none⟩,
    ⟨(some 3), .mv (.t 14), none⟩])))
/-- (*gearbox/gearboxlaw01.Book).lookStmt · 1 parameters, 0 captured -/
def x82 : XFun := ⟨[.tmp 2],
  (.seq (.region [0] [⟨(some 2), .mv (.c (.bool false)), none⟩])
  (.seq (.seq (.region [0, 3] [⟨(some 3), .mv (.c (.int .i64 0)), none⟩])
  (.block 0 (.loop [0, 3] x82L2)))
  (.seq (.region [2] [⟨(some 2), .mv (.c (.bool true)), none⟩])
  .ret)))⟩

def x85L1 : XCode :=
  (.seq (.seq (.region [0, 3, 4, 5, 34] [⟨(some 30), .mv (.t 5), none⟩,
    ⟨(some 31), .fieldA 1 (.t 4), none⟩,
    ⟨(some 32), .load none (.t 31), none⟩,
    ⟨(some 33), .len (.t 32), none⟩,
    ⟨(some 34), .bin .lss (.t 30) (.t 33), none⟩])
  (.cond (.t 34)
    .skip
    (.exit 2)))
  (.seq (.block 3 (.seq (.region [0, 3, 4, 5, 63] [⟨(some 37), .fieldA 1 (.t 4), none⟩,
    ⟨(some 38), .load none (.t 37), none⟩,
    ⟨(some 39), .mv (.t 5), none⟩,
    ⟨(some 40), .idxA 4 (.t 38) (.t 39), none⟩,
    ⟨(some 41), .load (some 4) (.t 40), none⟩,
    ⟨(some 42), .fieldA 2 (.t 4), none⟩,
    ⟨(some 43), .load none (.t 42), none⟩,
    ⟨(some 44), .call .view 401 [(.t 41), (.t 43)], none⟩,
    ⟨(some 45), .un .not (.t 44), none⟩,
    ⟨(some 46), .mv (.t 45), none⟩,
    ⟨(some 47), .mv (.t 5), some (46, false)⟩,
    ⟨(some 48), .fieldA 0 (.t 4), some (46, false)⟩,
    ⟨(some 49), .load none (.t 48), some (46, false)⟩,
    ⟨(some 50), .len (.t 49), some (46, false)⟩,
    ⟨(some 51), .bin .lss (.t 47) (.t 50), some (46, false)⟩,
    ⟨(some 52), .mv (.t 51), some (46, false)⟩,
    ⟨(some 53), .fieldA 0 (.t 4), some (52, true)⟩,
    ⟨(some 54), .load none (.t 53), some (52, true)⟩,
    ⟨(some 55), .mv (.t 5), some (52, true)⟩,
    ⟨(some 56), .idxA 4 (.t 54) (.t 55), some (52, true)⟩,
    ⟨(some 57), .load (some 4) (.t 56), some (52, true)⟩,
    ⟨(some 58), .fieldA 2 (.t 4), some (52, true)⟩,
    ⟨(some 59), .load none (.t 58), some (52, true)⟩,
    ⟨(some 60), .call .view 401 [(.t 57), (.t 59)], some (52, true)⟩,
    ⟨(some 61), .un .not (.t 60), some (52, true)⟩,
    ⟨(some 62), .pick (.t 52) (.t 61) (.c (.bool false)), some (46, false)⟩,
    ⟨(some 63), .pick (.t 46) (.c (.bool true)) (.t 62), none⟩])
  (.cond (.t 63)
    (.seq (.region [2] [⟨(some 2), .mv (.c (.bool false)), none⟩])
    .ret)
    .skip)))
  (.region [0, 3, 4, 5] [⟨(some 35), .mv (.t 5), none⟩,
    ⟨(some 36), .bin .add (.t 35) (.c (.int .i64 1)), none⟩,
    ⟨(some 5), .mv (.t 36), none⟩])))
def x85L2 : XCode :=
  (.seq (.seq (.region [0, 3, 12] [⟨(some 6), .mv (.t 3), none⟩,
    ⟨(some 7), .mv (.t 0), none⟩,
    ⟨(some 8), .nilCheck (.t 7), none⟩,
    ⟨(some 9), .fieldA 13 (.t 8), none⟩,
    ⟨(some 10), .load none (.t 9), none⟩,
    ⟨(some 11), .len (.t 10), none⟩,
    ⟨(some 12), .bin .lss (.t 6) (.t 11), none⟩])
  (.cond (.t 12)
    .skip
    (.exit 0)))
  (.seq (.block 1 (.seq (.region [0, 3, 4] [⟨(some 15), .mv (.t 0), none⟩,
    ⟨(some 16), .nilCheck (.t 15), none⟩,
    ⟨(some 17), .fieldA 13 (.t 16), none⟩,
    ⟨(some 18), .load none (.t 17), none⟩,
    ⟨(some 19), .mv (.t 3), none⟩,
    ⟨(some 20), .idxA 3 (.t 18) (.t 19), none⟩,
    ⟨(some 21), .load (some 3) (.t 20), none⟩,
    ⟨(some 4), .alloc [(.slice none 0 0), (.slice none 0 0), (.int .i64 0)], none⟩,
    ⟨none, .store 3 (.t 4) (.t 21), none⟩])
  (.seq (.seq (.region [0, 3, 4, 29] [⟨(some 22), .fieldA 1 (.t 4), none⟩,
    ⟨(some 23), .load none (.t 22), none⟩,
    ⟨(some 24), .len (.t 23), none⟩,
    ⟨(some 25), .fieldA 0 (.t 4), none⟩,
    ⟨(some 26), .load none (.t 25), none⟩,
    ⟨(some 27), .len (.t 26), none⟩,
    ⟨(some 28), .bin .add (.t 27) (.c (.int .i64 40)), none⟩,
    ⟨(some 29), .bin .neq (.t 24) (.t 28), none⟩])
  (.cond (.t 29)
    (.seq (.region [2] [⟨(some 2), .mv (.c (.bool false)), none⟩])
    .ret)
    .skip))
  (.seq (.region [0, 3, 4, 5] [⟨(some 5), .mv (.c (.int .i64 0)), none⟩])
  (.block 2 (.loop [0, 3, 4, 5] x85L1))))))
  (.region [0, 3] [⟨(some 13), .mv (.t 3), none⟩,
    ⟨(some 14), .bin .add (.t 13) (.c (.int .i64 1)), none⟩,
    ⟨(some 3), .mv (.t 14), none⟩])))
/-- (*gearbox/gearboxlaw01.Book).lookWord · 1 parameters, 0 captured -/
def x85 : XFun := ⟨[.tmp 2],
  (.seq (.region [0] [⟨(some 2), .mv (.c (.bool false)), none⟩])
  (.seq (.seq (.region [0, 3] [⟨(some 3), .mv (.c (.int .i64 0)), none⟩])
  (.block 0 (.loop [0, 3] x85L2)))
  (.seq (.region [2] [⟨(some 2), .mv (.c (.bool true)), none⟩])
  .ret)))⟩

def x80L1 : XCode :=
  (.seq (.seq (.region [0, 3, 4, 5, 34] [⟨(some 30), .mv (.t 5), none⟩,
    ⟨(some 31), .fieldA 1 (.t 4), none⟩,
    ⟨(some 32), .load none (.t 31), none⟩,
    ⟨(some 33), .len (.t 32), none⟩,
    ⟨(some 34), .bin .lss (.t 30) (.t 33), none⟩])
  (.cond (.t 34)
    .skip
    (.exit 2)))
  (.seq (.block 3 (.seq (.region [0, 3, 4, 5, 63] [⟨(some 37), .fieldA 1 (.t 4), none⟩,
    ⟨(some 38), .load none (.t 37), none⟩,
    ⟨(some 39), .mv (.t 5), none⟩,
    ⟨(some 40), .idxA 6 (.t 38) (.t 39), none⟩,
    ⟨(some 41), .load (some 6) (.t 40), none⟩,
    ⟨(some 42), .fieldA 2 (.t 4), none⟩,
    ⟨(some 43), .load none (.t 42), none⟩,
    ⟨(some 44), .call .view 396 [(.t 41), (.t 43)], none⟩,
    ⟨(some 45), .un .not (.t 44), none⟩,
    ⟨(some 46), .mv (.t 45), none⟩,
    ⟨(some 47), .mv (.t 5), some (46, false)⟩,
    ⟨(some 48), .fieldA 0 (.t 4), some (46, false)⟩,
    ⟨(some 49), .load none (.t 48), some (46, false)⟩,
    ⟨(some 50), .len (.t 49), some (46, false)⟩,
    ⟨(some 51), .bin .lss (.t 47) (.t 50), some (46, false)⟩,
    ⟨(some 52), .mv (.t 51), some (46, false)⟩,
    ⟨(some 53), .fieldA 0 (.t 4), some (52, true)⟩,
    ⟨(some 54), .load none (.t 53), some (52, true)⟩,
    ⟨(some 55), .mv (.t 5), some (52, true)⟩,
    ⟨(some 56), .idxA 6 (.t 54) (.t 55), some (52, true)⟩,
    ⟨(some 57), .load (some 6) (.t 56), some (52, true)⟩,
    ⟨(some 58), .fieldA 2 (.t 4), some (52, true)⟩,
    ⟨(some 59), .load none (.t 58), some (52, true)⟩,
    ⟨(some 60), .call .view 396 [(.t 57), (.t 59)], some (52, true)⟩,
    ⟨(some 61), .un .not (.t 60), some (52, true)⟩,
    ⟨(some 62), .pick (.t 52) (.t 61) (.c (.bool false)), some (46, false)⟩,
    ⟨(some 63), .pick (.t 46) (.c (.bool true)) (.t 62), none⟩])
  (.cond (.t 63)
    (.seq (.region [2] [⟨(some 2), .mv (.c (.bool false)), none⟩])
    .ret)
    .skip)))
  (.region [0, 3, 4, 5] [⟨(some 35), .mv (.t 5), none⟩,
    ⟨(some 36), .bin .add (.t 35) (.c (.int .i64 1)), none⟩,
    ⟨(some 5), .mv (.t 36), none⟩])))
def x80L2 : XCode :=
  (.seq (.seq (.region [0, 3, 12] [⟨(some 6), .mv (.t 3), none⟩,
    ⟨(some 7), .mv (.t 0), none⟩,
    ⟨(some 8), .nilCheck (.t 7), none⟩,
    ⟨(some 9), .fieldA 14 (.t 8), none⟩,
    ⟨(some 10), .load none (.t 9), none⟩,
    ⟨(some 11), .len (.t 10), none⟩,
    ⟨(some 12), .bin .lss (.t 6) (.t 11), none⟩])
  (.cond (.t 12)
    .skip
    (.exit 0)))
  (.seq (.block 1 (.seq (.region [0, 3, 4] [⟨(some 15), .mv (.t 0), none⟩,
    ⟨(some 16), .nilCheck (.t 15), none⟩,
    ⟨(some 17), .fieldA 14 (.t 16), none⟩,
    ⟨(some 18), .load none (.t 17), none⟩,
    ⟨(some 19), .mv (.t 3), none⟩,
    ⟨(some 20), .idxA 3 (.t 18) (.t 19), none⟩,
    ⟨(some 21), .load (some 3) (.t 20), none⟩,
    ⟨(some 4), .alloc [(.slice none 0 0), (.slice none 0 0), (.int .i64 0)], none⟩,
    ⟨none, .store 3 (.t 4) (.t 21), none⟩])
  (.seq (.seq (.region [0, 3, 4, 29] [⟨(some 22), .fieldA 1 (.t 4), none⟩,
    ⟨(some 23), .load none (.t 22), none⟩,
    ⟨(some 24), .len (.t 23), none⟩,
    ⟨(some 25), .fieldA 0 (.t 4), none⟩,
    ⟨(some 26), .load none (.t 25), none⟩,
    ⟨(some 27), .len (.t 26), none⟩,
    ⟨(some 28), .bin .add (.t 27) (.c (.int .i64 40)), none⟩,
    ⟨(some 29), .bin .neq (.t 24) (.t 28), none⟩])
  (.cond (.t 29)
    (.seq (.region [2] [⟨(some 2), .mv (.c (.bool false)), none⟩])
    .ret)
    .skip))
  (.seq (.region [0, 3, 4, 5] [⟨(some 5), .mv (.c (.int .i64 0)), none⟩])
  (.block 2 (.loop [0, 3, 4, 5] x80L1))))))
  (.region [0, 3] [⟨(some 13), .mv (.t 3), none⟩,
    ⟨(some 14), .bin .add (.t 13) (.c (.int .i64 1)), none⟩,
    ⟨(some 3), .mv (.t 14), none⟩])))
/-- (*gearbox/gearboxlaw01.Book).lookRegIns · 1 parameters, 0 captured -/
def x80 : XFun := ⟨[.tmp 2],
  (.seq (.region [0] [⟨(some 2), .mv (.c (.bool false)), none⟩])
  (.seq (.seq (.region [0, 3] [⟨(some 3), .mv (.c (.int .i64 0)), none⟩])
  (.block 0 (.loop [0, 3] x80L2)))
  (.seq (.region [2] [⟨(some 2), .mv (.c (.bool true)), none⟩])
  .ret)))⟩

def x76L1 : XCode :=
  (.seq (.seq (.region [0, 3, 4, 5, 34] [⟨(some 30), .mv (.t 5), none⟩,
    ⟨(some 31), .fieldA 1 (.t 4), none⟩,
    ⟨(some 32), .load none (.t 31), none⟩,
    ⟨(some 33), .len (.t 32), none⟩,
    ⟨(some 34), .bin .lss (.t 30) (.t 33), none⟩])
  (.cond (.t 34)
    .skip
    (.exit 2)))
  (.seq (.block 3 (.seq (.region [0, 3, 4, 5, 63] [⟨(some 37), .fieldA 1 (.t 4), none⟩,
    ⟨(some 38), .load none (.t 37), none⟩,
    ⟨(some 39), .mv (.t 5), none⟩,
    ⟨(some 40), .idxA 3 (.t 38) (.t 39), none⟩,
    ⟨(some 41), .load (some 3) (.t 40), none⟩,
    ⟨(some 42), .fieldA 2 (.t 4), none⟩,
    ⟨(some 43), .load none (.t 42), none⟩,
    ⟨(some 44), .call .view 392 [(.t 41), (.t 43)], none⟩,
    ⟨(some 45), .un .not (.t 44), none⟩,
    ⟨(some 46), .mv (.t 45), none⟩,
    ⟨(some 47), .mv (.t 5), some (46, false)⟩,
    ⟨(some 48), .fieldA 0 (.t 4), some (46, false)⟩,
    ⟨(some 49), .load none (.t 48), some (46, false)⟩,
    ⟨(some 50), .len (.t 49), some (46, false)⟩,
    ⟨(some 51), .bin .lss (.t 47) (.t 50), some (46, false)⟩,
    ⟨(some 52), .mv (.t 51), some (46, false)⟩,
    ⟨(some 53), .fieldA 0 (.t 4), some (52, true)⟩,
    ⟨(some 54), .load none (.t 53), some (52, true)⟩,
    ⟨(some 55), .mv (.t 5), some (52, true)⟩,
    ⟨(some 56), .idxA 3 (.t 54) (.t 55), some (52, true)⟩,
    ⟨(some 57), .load (some 3) (.t 56), some (52, true)⟩,
    ⟨(some 58), .fieldA 2 (.t 4), some (52, true)⟩,
    ⟨(some 59), .load none (.t 58), some (52, true)⟩,
    ⟨(some 60), .call .view 392 [(.t 57), (.t 59)], some (52, true)⟩,
    ⟨(some 61), .un .not (.t 60), some (52, true)⟩,
    ⟨(some 62), .pick (.t 52) (.t 61) (.c (.bool false)), some (46, false)⟩,
    ⟨(some 63), .pick (.t 46) (.c (.bool true)) (.t 62), none⟩])
  (.cond (.t 63)
    (.seq (.region [2] [⟨(some 2), .mv (.c (.bool false)), none⟩])
    .ret)
    .skip)))
  (.region [0, 3, 4, 5] [⟨(some 35), .mv (.t 5), none⟩,
    ⟨(some 36), .bin .add (.t 35) (.c (.int .i64 1)), none⟩,
    ⟨(some 5), .mv (.t 36), none⟩])))
def x76L2 : XCode :=
  (.seq (.seq (.region [0, 3, 12] [⟨(some 6), .mv (.t 3), none⟩,
    ⟨(some 7), .mv (.t 0), none⟩,
    ⟨(some 8), .nilCheck (.t 7), none⟩,
    ⟨(some 9), .fieldA 15 (.t 8), none⟩,
    ⟨(some 10), .load none (.t 9), none⟩,
    ⟨(some 11), .len (.t 10), none⟩,
    ⟨(some 12), .bin .lss (.t 6) (.t 11), none⟩])
  (.cond (.t 12)
    .skip
    (.exit 0)))
  (.seq (.block 1 (.seq (.region [0, 3, 4] [⟨(some 15), .mv (.t 0), none⟩,
    ⟨(some 16), .nilCheck (.t 15), none⟩,
    ⟨(some 17), .fieldA 15 (.t 16), none⟩,
    ⟨(some 18), .load none (.t 17), none⟩,
    ⟨(some 19), .mv (.t 3), none⟩,
    ⟨(some 20), .idxA 3 (.t 18) (.t 19), none⟩,
    ⟨(some 21), .load (some 3) (.t 20), none⟩,
    ⟨(some 4), .alloc [(.slice none 0 0), (.slice none 0 0), (.int .i64 0)], none⟩,
    ⟨none, .store 3 (.t 4) (.t 21), none⟩])
  (.seq (.seq (.region [0, 3, 4, 29] [⟨(some 22), .fieldA 1 (.t 4), none⟩,
    ⟨(some 23), .load none (.t 22), none⟩,
    ⟨(some 24), .len (.t 23), none⟩,
    ⟨(some 25), .fieldA 0 (.t 4), none⟩,
    ⟨(some 26), .load none (.t 25), none⟩,
    ⟨(some 27), .len (.t 26), none⟩,
    ⟨(some 28), .bin .add (.t 27) (.c (.int .i64 40)), none⟩,
    ⟨(some 29), .bin .neq (.t 24) (.t 28), none⟩])
  (.cond (.t 29)
    (.seq (.region [2] [⟨(some 2), .mv (.c (.bool false)), none⟩])
    .ret)
    .skip))
  (.seq (.region [0, 3, 4, 5] [⟨(some 5), .mv (.c (.int .i64 0)), none⟩])
  (.block 2 (.loop [0, 3, 4, 5] x76L1))))))
  (.region [0, 3] [⟨(some 13), .mv (.t 3), none⟩,
    ⟨(some 14), .bin .add (.t 13) (.c (.int .i64 1)), none⟩,
    ⟨(some 3), .mv (.t 14), none⟩])))
/-- (*gearbox/gearboxlaw01.Book).lookLoc · 1 parameters, 0 captured -/
def x76 : XFun := ⟨[.tmp 2],
  (.seq (.region [0] [⟨(some 2), .mv (.c (.bool false)), none⟩])
  (.seq (.seq (.region [0, 3] [⟨(some 3), .mv (.c (.int .i64 0)), none⟩])
  (.block 0 (.loop [0, 3] x76L2)))
  (.seq (.region [2] [⟨(some 2), .mv (.c (.bool true)), none⟩])
  .ret)))⟩

def x70L1 : XCode :=
  (.seq (.seq (.region [0, 3, 4, 5, 34] [⟨(some 30), .mv (.t 5), none⟩,
    ⟨(some 31), .fieldA 1 (.t 4), none⟩,
    ⟨(some 32), .load none (.t 31), none⟩,
    ⟨(some 33), .len (.t 32), none⟩,
    ⟨(some 34), .bin .lss (.t 30) (.t 33), none⟩])
  (.cond (.t 34)
    .skip
    (.exit 2)))
  (.seq (.block 3 (.seq (.region [0, 3, 4, 5, 63] [⟨(some 37), .fieldA 1 (.t 4), none⟩,
    ⟨(some 38), .load none (.t 37), none⟩,
    ⟨(some 39), .mv (.t 5), none⟩,
    ⟨(some 40), .idxA 2 (.t 38) (.t 39), none⟩,
    ⟨(some 41), .load (some 2) (.t 40), none⟩,
    ⟨(some 42), .fieldA 2 (.t 4), none⟩,
    ⟨(some 43), .load none (.t 42), none⟩,
    ⟨(some 44), .call .view 386 [(.t 41), (.t 43)], none⟩,
    ⟨(some 45), .un .not (.t 44), none⟩,
    ⟨(some 46), .mv (.t 45), none⟩,
    ⟨(some 47), .mv (.t 5), some (46, false)⟩,
    ⟨(some 48), .fieldA 0 (.t 4), some (46, false)⟩,
    ⟨(some 49), .load none (.t 48), some (46, false)⟩,
    ⟨(some 50), .len (.t 49), some (46, false)⟩,
    ⟨(some 51), .bin .lss (.t 47) (.t 50), some (46, false)⟩,
    ⟨(some 52), .mv (.t 51), some (46, false)⟩,
    ⟨(some 53), .fieldA 0 (.t 4), some (52, true)⟩,
    ⟨(some 54), .load none (.t 53), some (52, true)⟩,
    ⟨(some 55), .mv (.t 5), some (52, true)⟩,
    ⟨(some 56), .idxA 2 (.t 54) (.t 55), some (52, true)⟩,
    ⟨(some 57), .load (some 2) (.t 56), some (52, true)⟩,
    ⟨(some 58), .fieldA 2 (.t 4), some (52, true)⟩,
    ⟨(some 59), .load none (.t 58), some (52, true)⟩,
    ⟨(some 60), .call .view 386 [(.t 57), (.t 59)], some (52, true)⟩,
    ⟨(some 61), .un .not (.t 60), some (52, true)⟩,
    ⟨(some 62), .pick (.t 52) (.t 61) (.c (.bool false)), some (46, false)⟩,
    ⟨(some 63), .pick (.t 46) (.c (.bool true)) (.t 62), none⟩])
  (.cond (.t 63)
    (.seq (.region [2] [⟨(some 2), .mv (.c (.bool false)), none⟩])
    .ret)
    .skip)))
  (.region [0, 3, 4, 5] [⟨(some 35), .mv (.t 5), none⟩,
    ⟨(some 36), .bin .add (.t 35) (.c (.int .i64 1)), none⟩,
    ⟨(some 5), .mv (.t 36), none⟩])))
def x70L2 : XCode :=
  (.seq (.seq (.region [0, 3, 12] [⟨(some 6), .mv (.t 3), none⟩,
    ⟨(some 7), .mv (.t 0), none⟩,
    ⟨(some 8), .nilCheck (.t 7), none⟩,
    ⟨(some 9), .fieldA 16 (.t 8), none⟩,
    ⟨(some 10), .load none (.t 9), none⟩,
    ⟨(some 11), .len (.t 10), none⟩,
    ⟨(some 12), .bin .lss (.t 6) (.t 11), none⟩])
  (.cond (.t 12)
    .skip
    (.exit 0)))
  (.seq (.block 1 (.seq (.region [0, 3, 4] [⟨(some 15), .mv (.t 0), none⟩,
    ⟨(some 16), .nilCheck (.t 15), none⟩,
    ⟨(some 17), .fieldA 16 (.t 16), none⟩,
    ⟨(some 18), .load none (.t 17), none⟩,
    ⟨(some 19), .mv (.t 3), none⟩,
    ⟨(some 20), .idxA 3 (.t 18) (.t 19), none⟩,
    ⟨(some 21), .load (some 3) (.t 20), none⟩,
    ⟨(some 4), .alloc [(.slice none 0 0), (.slice none 0 0), (.int .i64 0)], none⟩,
    ⟨none, .store 3 (.t 4) (.t 21), none⟩])
  (.seq (.seq (.region [0, 3, 4, 29] [⟨(some 22), .fieldA 1 (.t 4), none⟩,
    ⟨(some 23), .load none (.t 22), none⟩,
    ⟨(some 24), .len (.t 23), none⟩,
    ⟨(some 25), .fieldA 0 (.t 4), none⟩,
    ⟨(some 26), .load none (.t 25), none⟩,
    ⟨(some 27), .len (.t 26), none⟩,
    ⟨(some 28), .bin .add (.t 27) (.c (.int .i64 40)), none⟩,
    ⟨(some 29), .bin .neq (.t 24) (.t 28), none⟩])
  (.cond (.t 29)
    (.seq (.region [2] [⟨(some 2), .mv (.c (.bool false)), none⟩])
    .ret)
    .skip))
  (.seq (.region [0, 3, 4, 5] [⟨(some 5), .mv (.c (.int .i64 0)), none⟩])
  (.block 2 (.loop [0, 3, 4, 5] x70L1))))))
  (.region [0, 3] [⟨(some 13), .mv (.t 3), none⟩,
    ⟨(some 14), .bin .add (.t 13) (.c (.int .i64 1)), none⟩,
    ⟨(some 3), .mv (.t 14), none⟩])))
/-- (*gearbox/gearboxlaw01.Book).lookExit · 1 parameters, 0 captured -/
def x70 : XFun := ⟨[.tmp 2],
  (.seq (.region [0] [⟨(some 2), .mv (.c (.bool false)), none⟩])
  (.seq (.seq (.region [0, 3] [⟨(some 3), .mv (.c (.int .i64 0)), none⟩])
  (.block 0 (.loop [0, 3] x70L2)))
  (.seq (.region [2] [⟨(some 2), .mv (.c (.bool true)), none⟩])
  .ret)))⟩

def x69L1 : XCode :=
  (.seq (.seq (.region [0, 3, 4, 5, 34] [⟨(some 30), .mv (.t 5), none⟩,
    ⟨(some 31), .fieldA 1 (.t 4), none⟩,
    ⟨(some 32), .load none (.t 31), none⟩,
    ⟨(some 33), .len (.t 32), none⟩,
    ⟨(some 34), .bin .lss (.t 30) (.t 33), none⟩])
  (.cond (.t 34)
    .skip
    (.exit 2)))
  (.seq (.block 3 (.seq (.region [0, 3, 4, 5, 63] [⟨(some 37), .fieldA 1 (.t 4), none⟩,
    ⟨(some 38), .load none (.t 37), none⟩,
    ⟨(some 39), .mv (.t 5), none⟩,
    ⟨(some 40), .idxA 3 (.t 38) (.t 39), none⟩,
    ⟨(some 41), .load (some 3) (.t 40), none⟩,
    ⟨(some 42), .fieldA 2 (.t 4), none⟩,
    ⟨(some 43), .load none (.t 42), none⟩,
    ⟨(some 44), .call .view 385 [(.t 41), (.t 43)], none⟩,
    ⟨(some 45), .un .not (.t 44), none⟩,
    ⟨(some 46), .mv (.t 45), none⟩,
    ⟨(some 47), .mv (.t 5), some (46, false)⟩,
    ⟨(some 48), .fieldA 0 (.t 4), some (46, false)⟩,
    ⟨(some 49), .load none (.t 48), some (46, false)⟩,
    ⟨(some 50), .len (.t 49), some (46, false)⟩,
    ⟨(some 51), .bin .lss (.t 47) (.t 50), some (46, false)⟩,
    ⟨(some 52), .mv (.t 51), some (46, false)⟩,
    ⟨(some 53), .fieldA 0 (.t 4), some (52, true)⟩,
    ⟨(some 54), .load none (.t 53), some (52, true)⟩,
    ⟨(some 55), .mv (.t 5), some (52, true)⟩,
    ⟨(some 56), .idxA 3 (.t 54) (.t 55), some (52, true)⟩,
    ⟨(some 57), .load (some 3) (.t 56), some (52, true)⟩,
    ⟨(some 58), .fieldA 2 (.t 4), some (52, true)⟩,
    ⟨(some 59), .load none (.t 58), some (52, true)⟩,
    ⟨(some 60), .call .view 385 [(.t 57), (.t 59)], some (52, true)⟩,
    ⟨(some 61), .un .not (.t 60), some (52, true)⟩,
    ⟨(some 62), .pick (.t 52) (.t 61) (.c (.bool false)), some (46, false)⟩,
    ⟨(some 63), .pick (.t 46) (.c (.bool true)) (.t 62), none⟩])
  (.cond (.t 63)
    (.seq (.region [2] [⟨(some 2), .mv (.c (.bool false)), none⟩])
    .ret)
    .skip)))
  (.region [0, 3, 4, 5] [⟨(some 35), .mv (.t 5), none⟩,
    ⟨(some 36), .bin .add (.t 35) (.c (.int .i64 1)), none⟩,
    ⟨(some 5), .mv (.t 36), none⟩])))
def x69L2 : XCode :=
  (.seq (.seq (.region [0, 3, 12] [⟨(some 6), .mv (.t 3), none⟩,
    ⟨(some 7), .mv (.t 0), none⟩,
    ⟨(some 8), .nilCheck (.t 7), none⟩,
    ⟨(some 9), .fieldA 17 (.t 8), none⟩,
    ⟨(some 10), .load none (.t 9), none⟩,
    ⟨(some 11), .len (.t 10), none⟩,
    ⟨(some 12), .bin .lss (.t 6) (.t 11), none⟩])
  (.cond (.t 12)
    .skip
    (.exit 0)))
  (.seq (.block 1 (.seq (.region [0, 3, 4] [⟨(some 15), .mv (.t 0), none⟩,
    ⟨(some 16), .nilCheck (.t 15), none⟩,
    ⟨(some 17), .fieldA 17 (.t 16), none⟩,
    ⟨(some 18), .load none (.t 17), none⟩,
    ⟨(some 19), .mv (.t 3), none⟩,
    ⟨(some 20), .idxA 3 (.t 18) (.t 19), none⟩,
    ⟨(some 21), .load (some 3) (.t 20), none⟩,
    ⟨(some 4), .alloc [(.slice none 0 0), (.slice none 0 0), (.int .i64 0)], none⟩,
    ⟨none, .store 3 (.t 4) (.t 21), none⟩])
  (.seq (.seq (.region [0, 3, 4, 29] [⟨(some 22), .fieldA 1 (.t 4), none⟩,
    ⟨(some 23), .load none (.t 22), none⟩,
    ⟨(some 24), .len (.t 23), none⟩,
    ⟨(some 25), .fieldA 0 (.t 4), none⟩,
    ⟨(some 26), .load none (.t 25), none⟩,
    ⟨(some 27), .len (.t 26), none⟩,
    ⟨(some 28), .bin .add (.t 27) (.c (.int .i64 40)), none⟩,
    ⟨(some 29), .bin .neq (.t 24) (.t 28), none⟩])
  (.cond (.t 29)
    (.seq (.region [2] [⟨(some 2), .mv (.c (.bool false)), none⟩])
    .ret)
    .skip))
  (.seq (.region [0, 3, 4, 5] [⟨(some 5), .mv (.c (.int .i64 0)), none⟩])
  (.block 2 (.loop [0, 3, 4, 5] x69L1))))))
  (.region [0, 3] [⟨(some 13), .mv (.t 3), none⟩,
    ⟨(some 14), .bin .add (.t 13) (.c (.int .i64 1)), none⟩,
    ⟨(some 3), .mv (.t 14), none⟩])))
/-- (*gearbox/gearboxlaw01.Book).lookEntry · 1 parameters, 0 captured -/
def x69 : XFun := ⟨[.tmp 2],
  (.seq (.region [0] [⟨(some 2), .mv (.c (.bool false)), none⟩])
  (.seq (.seq (.region [0, 3] [⟨(some 3), .mv (.c (.int .i64 0)), none⟩])
  (.block 0 (.loop [0, 3] x69L2)))
  (.seq (.region [2] [⟨(some 2), .mv (.c (.bool true)), none⟩])
  .ret)))⟩

def x77L1 : XCode :=
  (.seq (.seq (.region [0, 3, 4, 5, 34] [⟨(some 30), .mv (.t 5), none⟩,
    ⟨(some 31), .fieldA 1 (.t 4), none⟩,
    ⟨(some 32), .load none (.t 31), none⟩,
    ⟨(some 33), .len (.t 32), none⟩,
    ⟨(some 34), .bin .lss (.t 30) (.t 33), none⟩])
  (.cond (.t 34)
    .skip
    (.exit 2)))
  (.seq (.block 3 (.seq (.region [0, 3, 4, 5, 63] [⟨(some 37), .fieldA 1 (.t 4), none⟩,
    ⟨(some 38), .load none (.t 37), none⟩,
    ⟨(some 39), .mv (.t 5), none⟩,
    ⟨(some 40), .idxA 5 (.t 38) (.t 39), none⟩,
    ⟨(some 41), .load (some 5) (.t 40), none⟩,
    ⟨(some 42), .fieldA 2 (.t 4), none⟩,
    ⟨(some 43), .load none (.t 42), none⟩,
    ⟨(some 44), .call .view 393 [(.t 41), (.t 43)], none⟩,
    ⟨(some 45), .un .not (.t 44), none⟩,
    ⟨(some 46), .mv (.t 45), none⟩,
    ⟨(some 47), .mv (.t 5), some (46, false)⟩,
    ⟨(some 48), .fieldA 0 (.t 4), some (46, false)⟩,
    ⟨(some 49), .load none (.t 48), some (46, false)⟩,
    ⟨(some 50), .len (.t 49), some (46, false)⟩,
    ⟨(some 51), .bin .lss (.t 47) (.t 50), some (46, false)⟩,
    ⟨(some 52), .mv (.t 51), some (46, false)⟩,
    ⟨(some 53), .fieldA 0 (.t 4), some (52, true)⟩,
    ⟨(some 54), .load none (.t 53), some (52, true)⟩,
    ⟨(some 55), .mv (.t 5), some (52, true)⟩,
    ⟨(some 56), .idxA 5 (.t 54) (.t 55), some (52, true)⟩,
    ⟨(some 57), .load (some 5) (.t 56), some (52, true)⟩,
    ⟨(some 58), .fieldA 2 (.t 4), some (52, true)⟩,
    ⟨(some 59), .load none (.t 58), some (52, true)⟩,
    ⟨(some 60), .call .view 393 [(.t 57), (.t 59)], some (52, true)⟩,
    ⟨(some 61), .un .not (.t 60), some (52, true)⟩,
    ⟨(some 62), .pick (.t 52) (.t 61) (.c (.bool false)), some (46, false)⟩,
    ⟨(some 63), .pick (.t 46) (.c (.bool true)) (.t 62), none⟩])
  (.cond (.t 63)
    (.seq (.region [2] [⟨(some 2), .mv (.c (.bool false)), none⟩])
    .ret)
    .skip)))
  (.region [0, 3, 4, 5] [⟨(some 35), .mv (.t 5), none⟩,
    ⟨(some 36), .bin .add (.t 35) (.c (.int .i64 1)), none⟩,
    ⟨(some 5), .mv (.t 36), none⟩])))
def x77L2 : XCode :=
  (.seq (.seq (.region [0, 3, 12] [⟨(some 6), .mv (.t 3), none⟩,
    ⟨(some 7), .mv (.t 0), none⟩,
    ⟨(some 8), .nilCheck (.t 7), none⟩,
    ⟨(some 9), .fieldA 18 (.t 8), none⟩,
    ⟨(some 10), .load none (.t 9), none⟩,
    ⟨(some 11), .len (.t 10), none⟩,
    ⟨(some 12), .bin .lss (.t 6) (.t 11), none⟩])
  (.cond (.t 12)
    .skip
    (.exit 0)))
  (.seq (.block 1 (.seq (.region [0, 3, 4] [⟨(some 15), .mv (.t 0), none⟩,
    ⟨(some 16), .nilCheck (.t 15), none⟩,
    ⟨(some 17), .fieldA 18 (.t 16), none⟩,
    ⟨(some 18), .load none (.t 17), none⟩,
    ⟨(some 19), .mv (.t 3), none⟩,
    ⟨(some 20), .idxA 3 (.t 18) (.t 19), none⟩,
    ⟨(some 21), .load (some 3) (.t 20), none⟩,
    ⟨(some 4), .alloc [(.slice none 0 0), (.slice none 0 0), (.int .i64 0)], none⟩,
    ⟨none, .store 3 (.t 4) (.t 21), none⟩])
  (.seq (.seq (.region [0, 3, 4, 29] [⟨(some 22), .fieldA 1 (.t 4), none⟩,
    ⟨(some 23), .load none (.t 22), none⟩,
    ⟨(some 24), .len (.t 23), none⟩,
    ⟨(some 25), .fieldA 0 (.t 4), none⟩,
    ⟨(some 26), .load none (.t 25), none⟩,
    ⟨(some 27), .len (.t 26), none⟩,
    ⟨(some 28), .bin .add (.t 27) (.c (.int .i64 40)), none⟩,
    ⟨(some 29), .bin .neq (.t 24) (.t 28), none⟩])
  (.cond (.t 29)
    (.seq (.region [2] [⟨(some 2), .mv (.c (.bool false)), none⟩])
    .ret)
    .skip))
  (.seq (.region [0, 3, 4, 5] [⟨(some 5), .mv (.c (.int .i64 0)), none⟩])
  (.block 2 (.loop [0, 3, 4, 5] x77L1))))))
  (.region [0, 3] [⟨(some 13), .mv (.t 3), none⟩,
    ⟨(some 14), .bin .add (.t 13) (.c (.int .i64 1)), none⟩,
    ⟨(some 3), .mv (.t 14), none⟩])))
/-- (*gearbox/gearboxlaw01.Book).lookNode · 1 parameters, 0 captured -/
def x77 : XFun := ⟨[.tmp 2],
  (.seq (.region [0] [⟨(some 2), .mv (.c (.bool false)), none⟩])
  (.seq (.seq (.region [0, 3] [⟨(some 3), .mv (.c (.int .i64 0)), none⟩])
  (.block 0 (.loop [0, 3] x77L2)))
  (.seq (.region [2] [⟨(some 2), .mv (.c (.bool true)), none⟩])
  .ret)))⟩

def x66L1 : XCode :=
  (.seq (.seq (.region [0, 3, 4, 5, 34] [⟨(some 30), .mv (.t 5), none⟩,
    ⟨(some 31), .fieldA 1 (.t 4), none⟩,
    ⟨(some 32), .load none (.t 31), none⟩,
    ⟨(some 33), .len (.t 32), none⟩,
    ⟨(some 34), .bin .lss (.t 30) (.t 33), none⟩])
  (.cond (.t 34)
    .skip
    (.exit 2)))
  (.seq (.block 3 (.seq (.region [0, 3, 4, 5, 63] [⟨(some 37), .fieldA 1 (.t 4), none⟩,
    ⟨(some 38), .load none (.t 37), none⟩,
    ⟨(some 39), .mv (.t 5), none⟩,
    ⟨(some 40), .idxA 6 (.t 38) (.t 39), none⟩,
    ⟨(some 41), .load (some 6) (.t 40), none⟩,
    ⟨(some 42), .fieldA 2 (.t 4), none⟩,
    ⟨(some 43), .load none (.t 42), none⟩,
    ⟨(some 44), .call .view 382 [(.t 41), (.t 43)], none⟩,
    ⟨(some 45), .un .not (.t 44), none⟩,
    ⟨(some 46), .mv (.t 45), none⟩,
    ⟨(some 47), .mv (.t 5), some (46, false)⟩,
    ⟨(some 48), .fieldA 0 (.t 4), some (46, false)⟩,
    ⟨(some 49), .load none (.t 48), some (46, false)⟩,
    ⟨(some 50), .len (.t 49), some (46, false)⟩,
    ⟨(some 51), .bin .lss (.t 47) (.t 50), some (46, false)⟩,
    ⟨(some 52), .mv (.t 51), some (46, false)⟩,
    ⟨(some 53), .fieldA 0 (.t 4), some (52, true)⟩,
    ⟨(some 54), .load none (.t 53), some (52, true)⟩,
    ⟨(some 55), .mv (.t 5), some (52, true)⟩,
    ⟨(some 56), .idxA 6 (.t 54) (.t 55), some (52, true)⟩,
    ⟨(some 57), .load (some 6) (.t 56), some (52, true)⟩,
    ⟨(some 58), .fieldA 2 (.t 4), some (52, true)⟩,
    ⟨(some 59), .load none (.t 58), some (52, true)⟩,
    ⟨(some 60), .call .view 382 [(.t 57), (.t 59)], some (52, true)⟩,
    ⟨(some 61), .un .not (.t 60), some (52, true)⟩,
    ⟨(some 62), .pick (.t 52) (.t 61) (.c (.bool false)), some (46, false)⟩,
    ⟨(some 63), .pick (.t 46) (.c (.bool true)) (.t 62), none⟩])
  (.cond (.t 63)
    (.seq (.region [2] [⟨(some 2), .mv (.c (.bool false)), none⟩])
    .ret)
    .skip)))
  (.region [0, 3, 4, 5] [⟨(some 35), .mv (.t 5), none⟩,
    ⟨(some 36), .bin .add (.t 35) (.c (.int .i64 1)), none⟩,
    ⟨(some 5), .mv (.t 36), none⟩])))
def x66L2 : XCode :=
  (.seq (.seq (.region [0, 3, 12] [⟨(some 6), .mv (.t 3), none⟩,
    ⟨(some 7), .mv (.t 0), none⟩,
    ⟨(some 8), .nilCheck (.t 7), none⟩,
    ⟨(some 9), .fieldA 19 (.t 8), none⟩,
    ⟨(some 10), .load none (.t 9), none⟩,
    ⟨(some 11), .len (.t 10), none⟩,
    ⟨(some 12), .bin .lss (.t 6) (.t 11), none⟩])
  (.cond (.t 12)
    .skip
    (.exit 0)))
  (.seq (.block 1 (.seq (.region [0, 3, 4] [⟨(some 15), .mv (.t 0), none⟩,
    ⟨(some 16), .nilCheck (.t 15), none⟩,
    ⟨(some 17), .fieldA 19 (.t 16), none⟩,
    ⟨(some 18), .load none (.t 17), none⟩,
    ⟨(some 19), .mv (.t 3), none⟩,
    ⟨(some 20), .idxA 3 (.t 18) (.t 19), none⟩,
    ⟨(some 21), .load (some 3) (.t 20), none⟩,
    ⟨(some 4), .alloc [(.slice none 0 0), (.slice none 0 0), (.int .i64 0)], none⟩,
    ⟨none, .store 3 (.t 4) (.t 21), none⟩])
  (.seq (.seq (.region [0, 3, 4, 29] [⟨(some 22), .fieldA 1 (.t 4), none⟩,
    ⟨(some 23), .load none (.t 22), none⟩,
    ⟨(some 24), .len (.t 23), none⟩,
    ⟨(some 25), .fieldA 0 (.t 4), none⟩,
    ⟨(some 26), .load none (.t 25), none⟩,
    ⟨(some 27), .len (.t 26), none⟩,
    ⟨(some 28), .bin .add (.t 27) (.c (.int .i64 40)), none⟩,
    ⟨(some 29), .bin .neq (.t 24) (.t 28), none⟩])
  (.cond (.t 29)
    (.seq (.region [2] [⟨(some 2), .mv (.c (.bool false)), none⟩])
    .ret)
    .skip))
  (.seq (.region [0, 3, 4, 5] [⟨(some 5), .mv (.c (.int .i64 0)), none⟩])
  (.block 2 (.loop [0, 3, 4, 5] x66L1))))))
  (.region [0, 3] [⟨(some 13), .mv (.t 3), none⟩,
    ⟨(some 14), .bin .add (.t 13) (.c (.int .i64 1)), none⟩,
    ⟨(some 3), .mv (.t 14), none⟩])))
/-- (*gearbox/gearboxlaw01.Book).lookBlock · 1 parameters, 0 captured -/
def x66 : XFun := ⟨[.tmp 2],
  (.seq (.region [0] [⟨(some 2), .mv (.c (.bool false)), none⟩])
  (.seq (.seq (.region [0, 3] [⟨(some 3), .mv (.c (.int .i64 0)), none⟩])
  (.block 0 (.loop [0, 3] x66L2)))
  (.seq (.region [2] [⟨(some 2), .mv (.c (.bool true)), none⟩])
  .ret)))⟩

def x81L1 : XCode :=
  (.seq (.seq (.region [0, 3, 4, 5, 34] [⟨(some 30), .mv (.t 5), none⟩,
    ⟨(some 31), .fieldA 1 (.t 4), none⟩,
    ⟨(some 32), .load none (.t 31), none⟩,
    ⟨(some 33), .len (.t 32), none⟩,
    ⟨(some 34), .bin .lss (.t 30) (.t 33), none⟩])
  (.cond (.t 34)
    .skip
    (.exit 2)))
  (.seq (.block 3 (.seq (.region [0, 3, 4, 5, 63] [⟨(some 37), .fieldA 1 (.t 4), none⟩,
    ⟨(some 38), .load none (.t 37), none⟩,
    ⟨(some 39), .mv (.t 5), none⟩,
    ⟨(some 40), .idxA 2 (.t 38) (.t 39), none⟩,
    ⟨(some 41), .load (some 2) (.t 40), none⟩,
    ⟨(some 42), .fieldA 2 (.t 4), none⟩,
    ⟨(some 43), .load none (.t 42), none⟩,
    ⟨(some 44), .call .view 397 [(.t 41), (.t 43)], none⟩,
    ⟨(some 45), .un .not (.t 44), none⟩,
    ⟨(some 46), .mv (.t 45), none⟩,
    ⟨(some 47), .mv (.t 5), some (46, false)⟩,
    ⟨(some 48), .fieldA 0 (.t 4), some (46, false)⟩,
    ⟨(some 49), .load none (.t 48), some (46, false)⟩,
    ⟨(some 50), .len (.t 49), some (46, false)⟩,
    ⟨(some 51), .bin .lss (.t 47) (.t 50), some (46, false)⟩,
    ⟨(some 52), .mv (.t 51), some (46, false)⟩,
    ⟨(some 53), .fieldA 0 (.t 4), some (52, true)⟩,
    ⟨(some 54), .load none (.t 53), some (52, true)⟩,
    ⟨(some 55), .mv (.t 5), some (52, true)⟩,
    ⟨(some 56), .idxA 2 (.t 54) (.t 55), some (52, true)⟩,
    ⟨(some 57), .load (some 2) (.t 56), some (52, true)⟩,
    ⟨(some 58), .fieldA 2 (.t 4), some (52, true)⟩,
    ⟨(some 59), .load none (.t 58), some (52, true)⟩,
    ⟨(some 60), .call .view 397 [(.t 57), (.t 59)], some (52, true)⟩,
    ⟨(some 61), .un .not (.t 60), some (52, true)⟩,
    ⟨(some 62), .pick (.t 52) (.t 61) (.c (.bool false)), some (46, false)⟩,
    ⟨(some 63), .pick (.t 46) (.c (.bool true)) (.t 62), none⟩])
  (.cond (.t 63)
    (.seq (.region [2] [⟨(some 2), .mv (.c (.bool false)), none⟩])
    .ret)
    .skip)))
  (.region [0, 3, 4, 5] [⟨(some 35), .mv (.t 5), none⟩,
    ⟨(some 36), .bin .add (.t 35) (.c (.int .i64 1)), none⟩,
    ⟨(some 5), .mv (.t 36), none⟩])))
def x81L2 : XCode :=
  (.seq (.seq (.region [0, 3, 12] [⟨(some 6), .mv (.t 3), none⟩,
    ⟨(some 7), .mv (.t 0), none⟩,
    ⟨(some 8), .nilCheck (.t 7), none⟩,
    ⟨(some 9), .fieldA 20 (.t 8), none⟩,
    ⟨(some 10), .load none (.t 9), none⟩,
    ⟨(some 11), .len (.t 10), none⟩,
    ⟨(some 12), .bin .lss (.t 6) (.t 11), none⟩])
  (.cond (.t 12)
    .skip
    (.exit 0)))
  (.seq (.block 1 (.seq (.region [0, 3, 4] [⟨(some 15), .mv (.t 0), none⟩,
    ⟨(some 16), .nilCheck (.t 15), none⟩,
    ⟨(some 17), .fieldA 20 (.t 16), none⟩,
    ⟨(some 18), .load none (.t 17), none⟩,
    ⟨(some 19), .mv (.t 3), none⟩,
    ⟨(some 20), .idxA 3 (.t 18) (.t 19), none⟩,
    ⟨(some 21), .load (some 3) (.t 20), none⟩,
    ⟨(some 4), .alloc [(.slice none 0 0), (.slice none 0 0), (.int .i64 0)], none⟩,
    ⟨none, .store 3 (.t 4) (.t 21), none⟩])
  (.seq (.seq (.region [0, 3, 4, 29] [⟨(some 22), .fieldA 1 (.t 4), none⟩,
    ⟨(some 23), .load none (.t 22), none⟩,
    ⟨(some 24), .len (.t 23), none⟩,
    ⟨(some 25), .fieldA 0 (.t 4), none⟩,
    ⟨(some 26), .load none (.t 25), none⟩,
    ⟨(some 27), .len (.t 26), none⟩,
    ⟨(some 28), .bin .add (.t 27) (.c (.int .i64 40)), none⟩,
    ⟨(some 29), .bin .neq (.t 24) (.t 28), none⟩])
  (.cond (.t 29)
    (.seq (.region [2] [⟨(some 2), .mv (.c (.bool false)), none⟩])
    .ret)
    .skip))
  (.seq (.region [0, 3, 4, 5] [⟨(some 5), .mv (.c (.int .i64 0)), none⟩])
  (.block 2 (.loop [0, 3, 4, 5] x81L1))))))
  (.region [0, 3] [⟨(some 13), .mv (.t 3), none⟩,
    ⟨(some 14), .bin .add (.t 13) (.c (.int .i64 1)), none⟩,
    ⟨(some 3), .mv (.t 14), none⟩])))
/-- (*gearbox/gearboxlaw01.Book).lookState · 1 parameters, 0 captured -/
def x81 : XFun := ⟨[.tmp 2],
  (.seq (.region [0] [⟨(some 2), .mv (.c (.bool false)), none⟩])
  (.seq (.seq (.region [0, 3] [⟨(some 3), .mv (.c (.int .i64 0)), none⟩])
  (.block 0 (.loop [0, 3] x81L2)))
  (.seq (.region [2] [⟨(some 2), .mv (.c (.bool true)), none⟩])
  .ret)))⟩

def x306L1 : XCode :=
  (.seq (.seq (.region [0, 3, 4, 14] [⟨(some 7), .mv (.t 4), none⟩,
    ⟨(some 8), .mv (.t 0), none⟩,
    ⟨(some 9), .len (.t 8), none⟩,
    ⟨(some 10), .bin .lss (.t 7) (.t 9), none⟩,
    ⟨(some 11), .mv (.t 10), none⟩,
    ⟨(some 12), .mv (.t 3), some (11, true)⟩,
    ⟨(some 13), .bin .leq (.t 12) (.c (.int .i64 1048576)), some (11, true)⟩,
    ⟨(some 14), .pick (.t 11) (.t 13) (.c (.bool false)), none⟩])
  (.cond (.t 14)
    .skip
    (.exit 0)))
  (.seq (.block 1 (.region [0, 3, 4] [⟨(some 17), .mv (.t 3), none⟩,
    ⟨(some 18), .mv (.t 0), none⟩,
    ⟨(some 19), .mv (.t 4), none⟩,
    ⟨(some 20), .idxA 3 (.t 18) (.t 19), none⟩,
    ⟨(some 21), .load (some 3) (.t 20), none⟩,
    ⟨(some 22), .call .view 307 [(.t 21)], none⟩,
    ⟨(some 23), .bin .add (.t 17) (.t 22), none⟩,
    ⟨(some 3), .mv (.t 23), none⟩]))
  (.region [0, 3, 4] [⟨(some 15), .mv (.t 4), none⟩,
    ⟨(some 16), .bin .add (.t 15) (.c (.int .i64 1)), none⟩,
    ⟨(some 4), .mv (.t 16), none⟩])))
/-- gearbox/gearboxlaw01.EntriesSize · 1 parameters, 0 captured -/
def x306 : XFun := ⟨[.tmp 2],
  (.seq (.region [0] [⟨(some 2), .mv (.c (.int .i64 0)), none⟩])
  (.seq (.region [0, 3] [⟨(some 5), .mv (.t 0), none⟩,
    ⟨(some 6), .len (.t 5), none⟩,
    ⟨(some 3), .mv (.t 6), none⟩])
  (.seq (.seq (.region [0, 3, 4] [⟨(some 4), .mv (.c (.int .i64 0)), none⟩])
  (.block 0 (.loop [0, 3, 4] x306L1)))
  (.seq (.region [2] [⟨(some 24), .mv (.t 3), none⟩,
    ⟨(some 2), .mv (.t 24), none⟩])
  .ret))))⟩

def x343L1 : XCode :=
  (.seq (.seq (.region [0, 3, 4, 14] [⟨(some 7), .mv (.t 4), none⟩,
    ⟨(some 8), .mv (.t 0), none⟩,
    ⟨(some 9), .len (.t 8), none⟩,
    ⟨(some 10), .bin .lss (.t 7) (.t 9), none⟩,
    ⟨(some 11), .mv (.t 10), none⟩,
    ⟨(some 12), .mv (.t 3), some (11, true)⟩,
    ⟨(some 13), .bin .leq (.t 12) (.c (.int .i64 1048576)), some (11, true)⟩,
    ⟨(some 14), .pick (.t 11) (.t 13) (.c (.bool false)), none⟩])
  (.cond (.t 14)
    .skip
    (.exit 0)))
  (.seq (.block 1 (.region [0, 3, 4] [⟨(some 17), .mv (.t 3), none⟩,
    ⟨(some 18), .mv (.t 0), none⟩,
    ⟨(some 19), .mv (.t 4), none⟩,
    ⟨(some 20), .idxA 6 (.t 18) (.t 19), none⟩,
    ⟨(some 21), .load (some 6) (.t 20), none⟩,
    ⟨(some 22), .call .view 342 [(.t 21)], none⟩,
    ⟨(some 23), .bin .add (.t 17) (.t 22), none⟩,
    ⟨(some 3), .mv (.t 23), none⟩]))
  (.region [0, 3, 4] [⟨(some 15), .mv (.t 4), none⟩,
    ⟨(some 16), .bin .add (.t 15) (.c (.int .i64 1)), none⟩,
    ⟨(some 4), .mv (.t 16), none⟩])))
/-- gearbox/gearboxlaw01.RegInsesSize · 1 parameters, 0 captured -/
def x343 : XFun := ⟨[.tmp 2],
  (.seq (.region [0] [⟨(some 2), .mv (.c (.int .i64 0)), none⟩])
  (.seq (.region [0, 3] [⟨(some 5), .mv (.t 0), none⟩,
    ⟨(some 6), .len (.t 5), none⟩,
    ⟨(some 3), .mv (.t 6), none⟩])
  (.seq (.seq (.region [0, 3, 4] [⟨(some 4), .mv (.c (.int .i64 0)), none⟩])
  (.block 0 (.loop [0, 3, 4] x343L1)))
  (.seq (.region [2] [⟨(some 24), .mv (.t 3), none⟩,
    ⟨(some 2), .mv (.t 24), none⟩])
  .ret))))⟩

def x309L1 : XCode :=
  (.seq (.seq (.region [0, 3, 4, 14] [⟨(some 7), .mv (.t 4), none⟩,
    ⟨(some 8), .mv (.t 0), none⟩,
    ⟨(some 9), .len (.t 8), none⟩,
    ⟨(some 10), .bin .lss (.t 7) (.t 9), none⟩,
    ⟨(some 11), .mv (.t 10), none⟩,
    ⟨(some 12), .mv (.t 3), some (11, true)⟩,
    ⟨(some 13), .bin .leq (.t 12) (.c (.int .i64 1048576)), some (11, true)⟩,
    ⟨(some 14), .pick (.t 11) (.t 13) (.c (.bool false)), none⟩])
  (.cond (.t 14)
    .skip
    (.exit 0)))
  (.seq (.block 1 (.region [0, 3, 4] [⟨(some 17), .mv (.t 3), none⟩,
    ⟨(some 18), .mv (.t 0), none⟩,
    ⟨(some 19), .mv (.t 4), none⟩,
    ⟨(some 20), .idxA 2 (.t 18) (.t 19), none⟩,
    ⟨(some 21), .load (some 2) (.t 20), none⟩,
    ⟨(some 22), .call .view 308 [(.t 21)], none⟩,
    ⟨(some 23), .bin .add (.t 17) (.t 22), none⟩,
    ⟨(some 3), .mv (.t 23), none⟩]))
  (.region [0, 3, 4] [⟨(some 15), .mv (.t 4), none⟩,
    ⟨(some 16), .bin .add (.t 15) (.c (.int .i64 1)), none⟩,
    ⟨(some 4), .mv (.t 16), none⟩])))
/-- gearbox/gearboxlaw01.ExitsSize · 1 parameters, 0 captured -/
def x309 : XFun := ⟨[.tmp 2],
  (.seq (.region [0] [⟨(some 2), .mv (.c (.int .i64 0)), none⟩])
  (.seq (.region [0, 3] [⟨(some 5), .mv (.t 0), none⟩,
    ⟨(some 6), .len (.t 5), none⟩,
    ⟨(some 3), .mv (.t 6), none⟩])
  (.seq (.seq (.region [0, 3, 4] [⟨(some 4), .mv (.c (.int .i64 0)), none⟩])
  (.block 0 (.loop [0, 3, 4] x309L1)))
  (.seq (.region [2] [⟨(some 24), .mv (.t 3), none⟩,
    ⟨(some 2), .mv (.t 24), none⟩])
  .ret))))⟩

/-- slices.Contains[[]int,int] · 2 parameters, 0 captured -/
def x753 : XFun := ⟨[.tmp 4],
  (.seq (.region [0, 1] [⟨(some 4), .mv (.c (.bool false)), none⟩])
  (.seq (.region [4] [⟨(some 5), .mv (.t 0), none⟩,
    ⟨(some 6), .mv (.t 1), none⟩,
    ⟨(some 7), .call .view 764 [(.t 5), (.t 6)], none⟩,
    ⟨(some 8), .bin .geq (.t 7) (.c (.int .i64 0)), none⟩,
    ⟨(some 4), .mv (.t 8), none⟩])
  .ret))⟩

/-- gearbox/gearboxlaw01.markVal · 1 parameters, 0 captured -/
def x420 : XFun := ⟨[.cell 2 (some 2)],
  (.seq (.region [0, 2] [⟨(some 2), .alloc [(.int .u8 0), (.int .i64 0)], none⟩])
  (.seq (.region [2] [⟨(some 3), .mv (.t 0), none⟩,
    ⟨(some 4), .bin .sub (.c (.int .i64 (-1000))) (.t 3), none⟩,
    ⟨(some 5), .build [(.int .u8 0), (.int .i64 0)] [(1, 1, (.t 4))], none⟩,
    ⟨none, .store 2 (.t 2) (.t 5), none⟩])
  .ret))⟩

/-- gearbox/gearboxlaw01.isVal · 2 parameters, 0 captured -/
def x400 : XFun := ⟨[.tmp 4],
  (.seq (.region [1, 2] [⟨(some 2), .box 2 (.t 0), none⟩,
    ⟨(some 4), .mv (.c (.bool false)), none⟩])
  (.seq (.region [4] [⟨(some 5), .fieldA 1 (.t 2), none⟩,
    ⟨(some 6), .load none (.t 5), none⟩,
    ⟨(some 7), .mv (.t 1), none⟩,
    ⟨(some 8), .bin .sub (.c (.int .i64 (-1000))) (.t 7), none⟩,
    ⟨(some 9), .bin .eql (.t 6) (.t 8), none⟩,
    ⟨(some 4), .mv (.t 9), none⟩])
  .ret))⟩

/-- gearbox/gearboxlaw01.EntrySize · 1 parameters, 0 captured -/
def x307 : XFun := ⟨[.tmp 2],
  (.seq (.region [1] [⟨(some 1), .box 3 (.t 0), none⟩,
    ⟨(some 2), .mv (.c (.int .i64 0)), none⟩])
  (.seq (.region [1, 3] [⟨(some 3), .mv (.c (.int .i64 1)), none⟩])
  (.seq (.seq (.region [1, 3, 5] [⟨(some 4), .mv (.t 3), none⟩,
    ⟨(some 5), .bin .leq (.t 4) (.c (.int .i64 1048576)), none⟩])
  (.cond (.t 5)
    (.region [3] [⟨(some 6), .mv (.t 3), none⟩,
      ⟨(some 7), .fieldA 2 (.t 1), none⟩,
      ⟨(some 8), .load none (.t 7), none⟩,
      ⟨(some 9), .call .view 319 [(.t 8)], none⟩,
      ⟨(some 10), .bin .add (.t 6) (.t 9), none⟩,
      ⟨(some 3), .mv (.t 10), none⟩])
    .skip))
  (.seq (.region [2] [⟨(some 11), .mv (.t 3), none⟩,
    ⟨(some 2), .mv (.t 11), none⟩])
  .ret))))⟩

/-- gearbox/gearboxlaw01.RegInsSize · 1 parameters, 0 captured -/
def x342 : XFun := ⟨[.tmp 2],
  (.seq (.region [1] [⟨(some 1), .box 6 (.t 0), none⟩,
    ⟨(some 2), .mv (.c (.int .i64 0)), none⟩])
  (.seq (.region [1, 3] [⟨(some 3), .mv (.c (.int .i64 1)), none⟩])
  (.seq (.seq (.region [1, 3, 5] [⟨(some 4), .mv (.t 3), none⟩,
    ⟨(some 5), .bin .leq (.t 4) (.c (.int .i64 1048576)), none⟩])
  (.cond (.t 5)
    (.region [3] [⟨(some 6), .mv (.t 3), none⟩,
      ⟨(some 7), .fieldA 2 (.t 1), none⟩,
      ⟨(some 8), .load none (.t 7), none⟩,
      ⟨(some 9), .call .view 319 [(.t 8)], none⟩,
      ⟨(some 10), .bin .add (.t 6) (.t 9), none⟩,
      ⟨(some 3), .mv (.t 10), none⟩])
    .skip))
  (.seq (.region [2] [⟨(some 11), .mv (.t 3), none⟩,
    ⟨(some 2), .mv (.t 11), none⟩])
  .ret))))⟩

/-- gearbox/gearboxlaw01.ExitSize · 1 parameters, 0 captured -/
def x308 : XFun := ⟨[.tmp 2],
  (.seq (.region [1] [⟨(some 1), .box 2 (.t 0), none⟩,
    ⟨(some 2), .mv (.c (.int .i64 0)), none⟩])
  (.seq (.region [1, 3] [⟨(some 3), .mv (.c (.int .i64 1)), none⟩])
  (.seq (.seq (.region [1, 3, 5] [⟨(some 4), .mv (.t 3), none⟩,
    ⟨(some 5), .bin .leq (.t 4) (.c (.int .i64 1048576)), none⟩])
  (.cond (.t 5)
    (.region [3] [⟨(some 6), .mv (.t 3), none⟩,
      ⟨(some 7), .fieldA 1 (.t 1), none⟩,
      ⟨(some 8), .load none (.t 7), none⟩,
      ⟨(some 9), .call .view 337 [(.t 8)], none⟩,
      ⟨(some 10), .bin .add (.t 6) (.t 9), none⟩,
      ⟨(some 3), .mv (.t 10), none⟩])
    .skip))
  (.seq (.region [2] [⟨(some 11), .mv (.t 3), none⟩,
    ⟨(some 2), .mv (.t 11), none⟩])
  .ret))))⟩

def x764L1 : XCode :=
  (.seq (.region [0, 1, 7, 8, 9] [⟨(some 9), .bin .lss (.t 8) (.t 7), none⟩])
  (.seq (.cond (.t 9)
    .skip
    (.exit 0))
  (.seq (.block 1 (.seq (.region [0, 1, 5, 7, 8] [⟨(some 10), .mv (.t 8), none⟩,
    ⟨(some 5), .mv (.t 10), none⟩])
  (.seq (.region [0, 1, 5, 7, 8, 16] [⟨(some 11), .mv (.t 1), none⟩,
    ⟨(some 12), .mv (.t 0), none⟩,
    ⟨(some 13), .mv (.t 5), none⟩,
    ⟨(some 14), .idxA 1 (.t 12) (.t 13), none⟩,
    ⟨(some 15), .load none (.t 14), none⟩,
    ⟨(some 16), .bin .eql (.t 11) (.t 15), none⟩])
  (.cond (.t 16)
    (.seq (.region [4] [⟨(some 17), .mv (.t 5), none⟩,
      ⟨(some 4), .mv (.t 17), none⟩])
    .ret)
    .skip))))
  (.region [0, 1, 7, 8] [⟨(some 18), .bin .add (.t 8) (.c (.int .i64 1)), none⟩,
    ⟨(some 8), .mv (.t 18), none⟩]))))
/-- slices.Index[[]int,int] · 2 parameters, 0 captured -/
def x764 : XFun := ⟨[.tmp 4],
  (.seq (.region [0, 1] [⟨(some 4), .mv (.c (.int .i64 0)), none⟩])
  (.seq (.seq (.region [0, 1, 7, 8] [⟨(some 6), .mv (.t 0), none⟩,
    ⟨(some 7), .len (.t 6), none⟩,
    ⟨(some 8), .mv (.c (.int .i64 0)), none⟩])
  (.block 0 (.loop [0, 1, 7, 8] x764L1)))
  (.seq (.region [4] [⟨(some 4), .mv (.c (.int .i64 (-1))), none⟩])
  .ret)))⟩

/-- gearbox/gearboxlaw01.word · 1 parameters, 0 captured -/
def x422 : XFun := ⟨[.tmp 2],
  (.seq (.region [0] [⟨(some 2), .mv (.c (.string .empty)), none⟩])
  (.seq (.region [2] [⟨(some 3), .mv (.t 0), none⟩,
    ⟨(some 4), .call .view 786 [(.t 3)], none⟩,
    ⟨(some 5), .bin .add (.c (.string ⟨#[35]⟩)) (.t 4), none⟩,
    ⟨(some 2), .mv (.t 5), none⟩])
  .ret))⟩

/-- gearbox/gearboxlaw01.IntsSize · 1 parameters, 0 captured -/
def x319 : XFun := ⟨[.tmp 2],
  (.seq (.region [0] [⟨(some 2), .mv (.c (.int .i64 0)), none⟩])
  (.seq (.region [2] [⟨(some 3), .mv (.t 0), none⟩,
    ⟨(some 4), .len (.t 3), none⟩,
    ⟨(some 2), .mv (.t 4), none⟩])
  .ret))⟩

/-- gearbox/gearboxlaw01.LocsSize · 1 parameters, 0 captured -/
def x337 : XFun := ⟨[.tmp 2],
  (.seq (.region [0] [⟨(some 2), .mv (.c (.int .i64 0)), none⟩])
  (.seq (.region [2] [⟨(some 3), .mv (.t 0), none⟩,
    ⟨(some 4), .len (.t 3), none⟩,
    ⟨(some 2), .mv (.t 4), none⟩])
  .ret))⟩


end Go.EX
