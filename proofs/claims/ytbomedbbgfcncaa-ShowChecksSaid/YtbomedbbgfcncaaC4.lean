/-
  EX: the functions as the interpreter reads them. Written by a program (Gen.lean.txt, mkcode.py).
-/
import Derived.Test.YtbomedbbgfcncaaK1
set_option linter.unusedVariables false
set_option linter.unusedSimpArgs false
namespace Go.EX

def x443L1 : XCode :=
  (.seq (.seq (.region [0, 1, 5, 18] [⟨(some 15), .mv (.t 5), none⟩,
    ⟨(some 16), .mv (.t 0), none⟩,
    ⟨(some 17), .len (.t 16), none⟩,
    ⟨(some 18), .bin .lss (.t 15) (.t 17), none⟩])
  (.cond (.t 18)
    .skip
    (.exit 0)))
  (.seq (.block 1 (.seq (.region [0, 1, 5, 26] [⟨(some 21), .mv (.t 0), none⟩,
    ⟨(some 22), .mv (.t 5), none⟩,
    ⟨(some 23), .idxA 5 (.t 21) (.t 22), none⟩,
    ⟨(some 24), .fieldA 3 (.t 23), none⟩,
    ⟨(some 25), .load none (.t 24), none⟩,
    ⟨(some 26), .bin .gtr (.t 25) (.c (.int .i64 1099511627776)), none⟩])
  (.cond (.t 26)
    (.seq (.region [4] [⟨(some 4), .mv (.c (.bool true)), none⟩])
    .ret)
    .skip)))
  (.region [0, 1, 5] [⟨(some 19), .mv (.t 5), none⟩,
    ⟨(some 20), .bin .add (.t 19) (.c (.int .i64 1)), none⟩,
    ⟨(some 5), .mv (.t 20), none⟩])))
/-- gearbox/gearboxlaw04.ShowWords · 2 parameters, 0 captured -/
def x443 : XFun := ⟨[.tmp 4],
  (.seq (.region [0, 1] [⟨(some 4), .mv (.c (.bool false)), none⟩])
  (.seq (.seq (.region [0, 1, 14] [⟨(some 8), .mv (.t 0), none⟩,
    ⟨(some 9), .call .view 445 [(.t 8)], none⟩,
    ⟨(some 10), .mv (.t 9), none⟩,
    ⟨(some 11), .mv (.t 1), some (10, false)⟩,
    ⟨(some 12), .len (.t 11), some (10, false)⟩,
    ⟨(some 13), .bin .gtr (.t 12) (.c (.int .i64 5000)), some (10, false)⟩,
    ⟨(some 14), .pick (.t 10) (.c (.bool true)) (.t 13), none⟩])
  (.cond (.t 14)
    (.seq (.region [4] [⟨(some 4), .mv (.c (.bool true)), none⟩])
    .ret)
    .skip))
  (.seq (.seq (.region [0, 1, 5] [⟨(some 5), .mv (.c (.int .i64 0)), none⟩])
  (.block 0 (.loop [0, 1, 5] x443L1)))
  (.seq (.region [0, 1, 6] [⟨(some 27), .mv (.t 0), none⟩,
    ⟨(some 28), .call .own 377 [(.t 27)], none⟩,
    ⟨(some 6), .mv (.t 28), none⟩])
  (.seq (.region [0, 1, 6, 7] [⟨(some 29), .mv (.t 1), none⟩,
    ⟨(some 30), .call .view 379 [(.t 29)], none⟩,
    ⟨(some 7), .mv (.t 30), none⟩])
  (.seq (.region [4] [⟨(some 31), .mv (.t 6), none⟩,
    ⟨(some 32), .mv (.t 7), none⟩,
    ⟨(some 33), .call .share 649 [(.t 31), (.t 32)], none⟩,
    ⟨(some 34), .mv (.t 0), none⟩,
    ⟨(some 35), .mv (.t 1), none⟩,
    ⟨(some 36), .call .view 505 [(.t 34), (.t 35)], none⟩,
    ⟨(some 37), .bin .eql (.t 33) (.t 36), none⟩,
    ⟨(some 38), .mv (.t 37), none⟩,
    ⟨(some 39), .mv (.t 6), some (38, true)⟩,
    ⟨(some 40), .mv (.t 0), some (38, true)⟩,
    ⟨(some 41), .call .view 334 [(.t 39), (.t 40)], some (38, true)⟩,
    ⟨(some 42), .pick (.t 38) (.t 41) (.c (.bool false)), none⟩,
    ⟨(some 43), .mv (.t 42), none⟩,
    ⟨(some 44), .mv (.t 7), some (43, true)⟩,
    ⟨(some 45), .mv (.t 1), some (43, true)⟩,
    ⟨(some 46), .call .view 336 [(.t 44), (.t 45)], some (43, true)⟩,
    ⟨(some 47), .pick (.t 43) (.t 46) (.c (.bool false)), none⟩,
    ⟨(some 4), .mv (.t 47), none⟩])
  .ret))))))⟩

/-- gearbox/gearboxlaw04.ShowChecks · 2 parameters, 0 captured -/
def x439 : XFun := ⟨[.tmp 4],
  (.seq (.region [0, 3] [⟨(some 3), .box 2 (.t 1), none⟩,
    ⟨(some 4), .mv (.c (.bool false)), none⟩])
  (.seq (.seq (.region [0, 3, 7] [⟨(some 6), .mv (.t 0), none⟩,
    ⟨(some 7), .call .view 445 [(.t 6)], none⟩])
  (.cond (.t 7)
    (.seq (.region [4] [⟨(some 4), .mv (.c (.bool true)), none⟩])
    .ret)
    .skip))
  (.seq (.region [0, 3, 5] [⟨(some 8), .mv (.t 0), none⟩,
    ⟨(some 9), .call .own 377 [(.t 8)], none⟩,
    ⟨(some 5), .mv (.t 9), none⟩])
  (.seq (.region [4] [⟨(some 10), .mv (.t 5), none⟩,
    ⟨(some 11), .load (some 2) (.t 3), none⟩,
    ⟨(some 12), .call .peek 646 [(.t 10), (.t 11)], none⟩,
    ⟨(some 13), .mv (.t 0), none⟩,
    ⟨(some 14), .load (some 2) (.t 3), none⟩,
    ⟨(some 15), .call .view 500 [(.t 13), (.t 14)], none⟩,
    ⟨(some 16), .binB .eql (.t 12) (.t 15), none⟩,
    ⟨(some 17), .mv (.t 16), none⟩,
    ⟨(some 18), .mv (.t 5), some (17, true)⟩,
    ⟨(some 19), .mv (.t 0), some (17, true)⟩,
    ⟨(some 20), .call .view 334 [(.t 18), (.t 19)], some (17, true)⟩,
    ⟨(some 21), .pick (.t 17) (.t 20) (.c (.bool false)), none⟩,
    ⟨(some 4), .mv (.t 21), none⟩])
  .ret))))⟩

def x445L1 : XCode :=
  (.seq (.seq (.region [0, 3, 4, 8] [⟨(some 5), .mv (.t 4), none⟩,
    ⟨(some 6), .mv (.t 0), none⟩,
    ⟨(some 7), .len (.t 6), none⟩,
    ⟨(some 8), .bin .lss (.t 5) (.t 7), none⟩])
  (.cond (.t 8)
    .skip
    (.exit 0)))
  (.seq (.block 1 (.seq (.seq (.region [0, 3, 4, 17] [⟨(some 11), .mv (.t 0), none⟩,
    ⟨(some 12), .mv (.t 4), none⟩,
    ⟨(some 13), .idxA 5 (.t 11) (.t 12), none⟩,
    ⟨(some 14), .fieldA 2 (.t 13), none⟩,
    ⟨(some 15), .load none (.t 14), none⟩,
    ⟨(some 16), .len (.t 15), none⟩,
    ⟨(some 17), .bin .gtr (.t 16) (.c (.int .i64 5000)), none⟩])
  (.cond (.t 17)
    (.seq (.region [2] [⟨(some 2), .mv (.c (.bool true)), none⟩])
    .ret)
    .skip))
  (.region [0, 3, 4] [⟨(some 18), .mv (.t 3), none⟩,
    ⟨(some 19), .mv (.t 0), none⟩,
    ⟨(some 20), .mv (.t 4), none⟩,
    ⟨(some 21), .idxA 5 (.t 19) (.t 20), none⟩,
    ⟨(some 22), .fieldA 2 (.t 21), none⟩,
    ⟨(some 23), .load none (.t 22), none⟩,
    ⟨(some 24), .len (.t 23), none⟩,
    ⟨(some 25), .bin .add (.t 18) (.t 24), none⟩,
    ⟨(some 3), .mv (.t 25), none⟩])))
  (.region [0, 3, 4] [⟨(some 9), .mv (.t 4), none⟩,
    ⟨(some 10), .bin .add (.t 9) (.c (.int .i64 1)), none⟩,
    ⟨(some 4), .mv (.t 10), none⟩])))
/-- gearbox/gearboxlaw04.great · 1 parameters, 0 captured -/
def x445 : XFun := ⟨[.tmp 2],
  (.seq (.region [0] [⟨(some 2), .mv (.c (.bool false)), none⟩])
  (.seq (.region [0, 3] [⟨(some 3), .mv (.c (.int .i64 0)), none⟩])
  (.seq (.seq (.region [0, 3, 4] [⟨(some 4), .mv (.c (.int .i64 0)), none⟩])
  (.block 0 (.loop [0, 3, 4] x445L1)))
  (.seq (.region [2] [⟨(some 26), .mv (.t 3), none⟩,
    ⟨(some 27), .bin .gtr (.t 26) (.c (.int .i64 20000)), none⟩,
    ⟨(some 28), .mv (.t 27), none⟩,
    ⟨(some 29), .mv (.t 0), some (28, false)⟩,
    ⟨(some 30), .call .view 361 [(.t 29)], some (28, false)⟩,
    ⟨(some 31), .buildSlice 1 [(.int .i64 0)] 1 [(0, 1, (.t 30))], some (28, false)⟩,
    ⟨(some 32), .call .view 303 [(.t 31)], some (28, false)⟩,
    ⟨(some 33), .pick (.t 28) (.c (.bool true)) (.t 32), none⟩,
    ⟨(some 2), .mv (.t 33), none⟩])
  .ret))))⟩

/-- gearbox/gearboxlaw01.TwinStore · 1 parameters, 0 captured -/
def x377 : XFun := ⟨[.tmp 2],
  (.seq (.region [0] [⟨(some 2), .mv (.c (.slice none 0 0)), none⟩])
  (.seq (.region [2] [⟨(some 3), .mv (.t 0), none⟩,
    ⟨(some 4), .call .own 373 [(.t 3)], none⟩,
    ⟨(some 2), .mv (.t 4), none⟩])
  .ret))⟩

def x379L1 : XCode :=
  (.seq (.seq (.region [0, 3, 4, 12] [⟨(some 9), .mv (.t 4), none⟩,
    ⟨(some 10), .mv (.t 0), none⟩,
    ⟨(some 11), .len (.t 10), none⟩,
    ⟨(some 12), .bin .lss (.t 9) (.t 11), none⟩])
  (.cond (.t 12)
    .skip
    (.exit 0)))
  (.seq (.block 1 (.region [0, 3, 4] [⟨(some 15), .mv (.t 3), none⟩,
    ⟨(some 16), .mv (.t 0), none⟩,
    ⟨(some 17), .mv (.t 4), none⟩,
    ⟨(some 18), .idxA 2 (.t 16) (.t 17), none⟩,
    ⟨(some 19), .load (some 2) (.t 18), none⟩,
    ⟨(some 20), .buildSlice 2 [(.int .u8 0), (.int .i64 0)] 1 [(0, 2, (.t 19))], none⟩,
    ⟨(some 21), .append 2 16 (.t 15) (.t 20), none⟩,
    ⟨(some 3), .mv (.t 21), none⟩]))
  (.region [0, 3, 4] [⟨(some 13), .mv (.t 4), none⟩,
    ⟨(some 14), .bin .add (.t 13) (.c (.int .i64 1)), none⟩,
    ⟨(some 4), .mv (.t 14), none⟩])))
/-- gearbox/gearboxlaw01.TwinVals · 1 parameters, 0 captured -/
def x379 : XFun := ⟨[.tmp 2],
  (.seq (.region [0] [⟨(some 2), .mv (.c (.slice none 0 0)), none⟩])
  (.seq (.region [0, 3] [⟨(some 5), .mv (.t 0), none⟩,
    ⟨(some 6), .len (.t 5), none⟩,
    ⟨(some 7), .bin .add (.t 6) (.c (.int .i64 1)), none⟩,
    ⟨(some 8), .makeSlice 2 16 [(.int .u8 0), (.int .i64 0)] (.c (.int .i64 0)) (.t 7), none⟩,
    ⟨(some 3), .mv (.t 8), none⟩])
  (.seq (.seq (.region [0, 3, 4] [⟨(some 4), .mv (.c (.int .i64 0)), none⟩])
  (.block 0 (.loop [0, 3, 4] x379L1)))
  (.seq (.region [2] [⟨(some 22), .mv (.t 3), none⟩,
    ⟨(some 23), .build [(.int .u8 0), (.int .i64 0)] [(1, 1, (.c (.int .i64 7777)))], none⟩,
    ⟨(some 24), .buildSlice 2 [(.int .u8 0), (.int .i64 0)] 1 [(0, 2, (.t 23))], none⟩,
    ⟨(some 25), .append 2 16 (.t 22) (.t 24), none⟩,
    ⟨(some 26), .mv (.t 0), none⟩,
    ⟨(some 27), .len (.t 26), none⟩,
    ⟨(some 28), .slice 2 (.t 25) none (some (.t 27)), none⟩,
    ⟨(some 2), .mv (.t 28), none⟩])
  .ret))))⟩

def x649L1 : XCode :=
  (.seq (.region [4, 9, 10, 11, 12] [⟨(some 12), .bin .lss (.t 11) (.t 10), none⟩])
  (.seq (.cond (.t 12)
    .skip
    (.exit 0))
  (.seq (.block 1 (.seq (.region [4, 6, 9, 10, 11] [⟨(some 13), .idxA 1 (.t 9) (.t 11), none⟩,
    ⟨(some 14), .load none (.t 13), none⟩,
    ⟨(some 6), .mv (.t 14), none⟩])
  (.region [4, 9, 10, 11] [⟨(some 15), .mv (.t 4), none⟩,
    ⟨(some 16), .mv (.t 6), none⟩,
    ⟨(some 17), .call .share 657 [(.t 16)], none⟩,
    ⟨(some 18), .bin .add (.t 15) (.t 17), none⟩,
    ⟨(some 4), .mv (.t 18), none⟩])))
  (.region [4, 9, 10, 11] [⟨(some 19), .bin .add (.t 11) (.c (.int .i64 1)), none⟩,
    ⟨(some 11), .mv (.t 19), none⟩]))))
/-- gearbox/show.Words · 2 parameters, 0 captured -/
def x649 : XFun := ⟨[.tmp 4],
  (.seq (.region [0, 1, 4] [⟨(some 4), .mv (.c (.int .i64 0)), none⟩])
  (.seq (.seq (.region [4, 9, 10, 11] [⟨(some 7), .mv (.t 0), none⟩,
    ⟨(some 8), .mv (.t 1), none⟩,
    ⟨(some 9), .call .share 654 [(.t 7), (.t 8)], none⟩,
    ⟨(some 10), .len (.t 9), none⟩,
    ⟨(some 11), .mv (.c (.int .i64 0)), none⟩])
  (.block 0 (.loop [4, 9, 10, 11] x649L1)))
  (.seq (.region [4] [⟨(some 20), .mv (.t 4), none⟩,
    ⟨(some 4), .mv (.t 20), none⟩])
  .ret)))⟩

def x505L1 : XCode :=
  (.seq (.seq (.region [0, 5, 6, 7, 15] [⟨(some 12), .mv (.t 7), none⟩,
    ⟨(some 13), .mv (.t 5), none⟩,
    ⟨(some 14), .len (.t 13), none⟩,
    ⟨(some 15), .bin .lss (.t 12) (.t 14), none⟩])
  (.cond (.t 15)
    .skip
    (.exit 0)))
  (.seq (.block 1 (.seq (.seq (.region [0, 5, 6, 7, 22] [⟨(some 18), .mv (.t 5), none⟩,
    ⟨(some 19), .mv (.t 7), none⟩,
    ⟨(some 20), .idxA 1 (.t 18) (.t 19), none⟩,
    ⟨(some 21), .load none (.t 20), none⟩,
    ⟨(some 22), .un .not (.t 21), none⟩])
  (.cond (.t 22)
    (.exit 1)
    .skip))
  (.seq (.region [0, 5, 6, 7, 8] [⟨(some 23), .mv (.t 0), none⟩,
    ⟨(some 24), .mv (.t 7), none⟩,
    ⟨(some 25), .idxA 5 (.t 23) (.t 24), none⟩,
    ⟨(some 26), .load (some 5) (.t 25), none⟩,
    ⟨(some 8), .alloc [(.int .u8 0), (.string .empty), (.slice none 0 0), (.int .i64 0), (.int .i64 0)], none⟩,
    ⟨none, .store 5 (.t 8) (.t 26), none⟩])
  (.seq (.region [0, 5, 6, 7, 8, 28] [⟨(some 27), .fieldA 0 (.t 8), none⟩,
    ⟨(some 28), .load none (.t 27), none⟩])
  (.block 2 (.seq (.region [0, 5, 6, 7, 8, 28, 29] [⟨(some 30), .bin .eql (.t 28) (.c (.int .u8 3)), none⟩,
    ⟨(some 29), .mv (.t 30), none⟩])
  (.cond (.t 29)
    (.region [0, 5, 6, 7] [⟨(some 31), .mv (.t 6), none⟩,
      ⟨(some 32), .bin .add (.t 31) (.c (.int .i64 2)), none⟩,
      ⟨(some 33), .fieldA 1 (.t 8), none⟩,
      ⟨(some 34), .load none (.t 33), none⟩,
      ⟨(some 35), .lenS (.t 34), none⟩,
      ⟨(some 36), .bin .add (.t 35) (.c (.int .i64 7)), none⟩,
      ⟨(some 37), .bin .quo (.t 36) (.c (.int .i64 8)), none⟩,
      ⟨(some 38), .bin .add (.t 32) (.t 37), none⟩,
      ⟨(some 6), .mv (.t 38), none⟩])
    (.seq (.seq (.region [0, 5, 6, 7, 8, 28, 39] [⟨(some 40), .bin .eql (.t 28) (.c (.int .u8 4)), none⟩,
      ⟨(some 39), .mv (.t 40), none⟩])
    (.cond (.t 39)
      .skip
      (.region [0, 5, 6, 7, 8, 28, 39] [⟨(some 41), .bin .eql (.t 28) (.c (.int .u8 5)), none⟩,
        ⟨(some 39), .mv (.t 41), none⟩])))
    (.cond (.t 39)
      (.seq (.region [0, 5, 6, 7, 8] [⟨(some 42), .mv (.t 6), none⟩,
        ⟨(some 43), .bin .add (.t 42) (.c (.int .i64 3)), none⟩,
        ⟨(some 6), .mv (.t 43), none⟩])
      (.seq (.region [0, 5, 6, 7, 8, 46] [⟨(some 44), .fieldA 3 (.t 8), none⟩,
        ⟨(some 45), .load none (.t 44), none⟩,
        ⟨(some 46), .bin .gtr (.t 45) (.c (.int .i64 0)), none⟩])
      (.cond (.t 46)
        (.region [0, 5, 6, 7] [⟨(some 47), .mv (.t 6), none⟩,
          ⟨(some 48), .bin .add (.t 47) (.c (.int .i64 1)), none⟩,
          ⟨(some 49), .fieldA 3 (.t 8), none⟩,
          ⟨(some 50), .load none (.t 49), none⟩,
          ⟨(some 51), .bin .mul (.c (.int .i64 2)) (.t 50), none⟩,
          ⟨(some 52), .bin .add (.t 48) (.t 51), none⟩,
          ⟨(some 6), .mv (.t 52), none⟩])
        .skip)))
      (.seq (.region [0, 5, 6, 7, 8, 28, 53] [⟨(some 54), .bin .eql (.t 28) (.c (.int .u8 6)), none⟩,
        ⟨(some 53), .mv (.t 54), none⟩])
      (.cond (.t 53)
        (.region [0, 5, 6, 7] [⟨(some 55), .mv (.t 6), none⟩,
          ⟨(some 56), .bin .add (.t 55) (.c (.int .i64 2)), none⟩,
          ⟨(some 57), .fieldA 2 (.t 8), none⟩,
          ⟨(some 58), .load none (.t 57), none⟩,
          ⟨(some 59), .len (.t 58), none⟩,
          ⟨(some 60), .bin .mul (.c (.int .i64 2)) (.t 59), none⟩,
          ⟨(some 61), .bin .add (.t 56) (.t 60), none⟩,
          ⟨(some 6), .mv (.t 61), none⟩])
        (.seq (.region [0, 5, 6, 7, 62] [⟨(some 63), .bin .eql (.t 28) (.c (.int .u8 7)), none⟩,
          ⟨(some 62), .mv (.t 63), none⟩])
        (.cond (.t 62)
          (.region [0, 5, 6, 7] [⟨(some 64), .mv (.t 6), none⟩,
            ⟨(some 65), .bin .add (.t 64) (.c (.int .i64 3)), none⟩,
            ⟨(some 6), .mv (.t 65), none⟩])
          .skip)))))))))))))
  (.region [0, 5, 6, 7] [⟨(some 16), .mv (.t 7), none⟩,
    ⟨(some 17), .bin .add (.t 16) (.c (.int .i64 1)), none⟩,
    ⟨(some 7), .mv (.t 17), none⟩])))
/-- gearbox/gearboxref04.Words · 2 parameters, 0 captured -/
def x505 : XFun := ⟨[.tmp 4],
  (.seq (.region [0, 1] [⟨(some 4), .mv (.c (.int .i64 0)), none⟩])
  (.seq (.region [0, 5] [⟨(some 9), .mv (.t 0), none⟩,
    ⟨(some 10), .mv (.t 1), none⟩,
    ⟨(some 11), .call .view 509 [(.t 9), (.t 10)], none⟩,
    ⟨(some 5), .mv (.t 11), none⟩])
  (.seq (.region [0, 5, 6] [⟨(some 6), .mv (.c (.int .i64 0)), none⟩])
  (.seq (.seq (.region [0, 5, 6, 7] [⟨(some 7), .mv (.c (.int .i64 0)), none⟩])
  (.block 0 (.loop [0, 5, 6, 7] x505L1)))
  (.seq (.region [4] [⟨(some 66), .mv (.t 6), none⟩,
    ⟨(some 4), .mv (.t 66), none⟩])
  .ret)))))⟩

/-- gearbox/gearboxlaw01.LeftStore · 2 parameters, 0 captured -/
def x334 : XFun := ⟨[.tmp 4],
  (.seq (.region [0, 1] [⟨(some 4), .mv (.c (.bool false)), none⟩])
  (.seq (.region [4] [⟨(some 5), .mv (.t 0), none⟩,
    ⟨(some 6), .mv (.t 1), none⟩,
    ⟨(some 7), .call .view 330 [(.t 5), (.t 6)], none⟩,
    ⟨(some 4), .mv (.t 7), none⟩])
  .ret))⟩

def x336L1 : XCode :=
  (.seq (.seq (.region [0, 1, 5, 22] [⟨(some 19), .mv (.t 5), none⟩,
    ⟨(some 20), .mv (.t 1), none⟩,
    ⟨(some 21), .len (.t 20), none⟩,
    ⟨(some 22), .bin .lss (.t 19) (.t 21), none⟩])
  (.cond (.t 22)
    .skip
    (.exit 0)))
  (.seq (.block 1 (.seq (.region [0, 1, 5, 33] [⟨(some 25), .mv (.t 0), none⟩,
    ⟨(some 26), .mv (.t 5), none⟩,
    ⟨(some 27), .idxA 2 (.t 25) (.t 26), none⟩,
    ⟨(some 28), .load (some 2) (.t 27), none⟩,
    ⟨(some 29), .mv (.t 1), none⟩,
    ⟨(some 30), .mv (.t 5), none⟩,
    ⟨(some 31), .idxA 2 (.t 29) (.t 30), none⟩,
    ⟨(some 32), .load (some 2) (.t 31), none⟩,
    ⟨(some 33), .eqCells true [0, 0] (.t 28) (.t 32), none⟩])
  (.cond (.t 33)
    (.seq (.region [4] [⟨(some 4), .mv (.c (.bool false)), none⟩])
    .ret)
    .skip)))
  (.region [0, 1, 5] [⟨(some 23), .mv (.t 5), none⟩,
    ⟨(some 24), .bin .add (.t 23) (.c (.int .i64 1)), none⟩,
    ⟨(some 5), .mv (.t 24), none⟩])))
/-- gearbox/gearboxlaw01.LeftVals · 2 parameters, 0 captured -/
def x336 : XFun := ⟨[.tmp 4],
  (.seq (.region [0, 1] [⟨(some 4), .mv (.c (.bool false)), none⟩])
  (.seq (.seq (.region [0, 1, 18] [⟨(some 7), .mv (.t 0), none⟩,
    ⟨(some 8), .len (.t 7), none⟩,
    ⟨(some 9), .mv (.t 1), none⟩,
    ⟨(some 10), .len (.t 9), none⟩,
    ⟨(some 11), .bin .neq (.t 8) (.t 10), none⟩,
    ⟨(some 12), .mv (.t 11), none⟩,
    ⟨(some 13), .mv (.t 0), some (12, false)⟩,
    ⟨(some 14), .cap (.t 13), some (12, false)⟩,
    ⟨(some 15), .mv (.t 1), some (12, false)⟩,
    ⟨(some 16), .len (.t 15), some (12, false)⟩,
    ⟨(some 17), .bin .leq (.t 14) (.t 16), some (12, false)⟩,
    ⟨(some 18), .pick (.t 12) (.c (.bool true)) (.t 17), none⟩])
  (.cond (.t 18)
    (.seq (.region [4] [⟨(some 4), .mv (.c (.bool false)), none⟩])
    .ret)
    .skip))
  (.seq (.seq (.region [0, 1, 5] [⟨(some 5), .mv (.c (.int .i64 0)), none⟩])
  (.block 0 (.loop [0, 1, 5] x336L1)))
  (.seq (.region [6] [⟨(some 34), .mv (.t 0), none⟩,
    ⟨(some 35), .mv (.t 1), none⟩,
    ⟨(some 36), .len (.t 35), none⟩,
    ⟨(some 37), .bin .add (.t 36) (.c (.int .i64 1)), none⟩,
    ⟨(some 38), .slice 2 (.t 34) none (some (.t 37)), none⟩,
    ⟨(some 39), .mv (.t 1), none⟩,
    ⟨(some 40), .len (.t 39), none⟩,
    ⟨(some 41), .idxA 2 (.t 38) (.t 40), none⟩,
    ⟨(some 42), .load (some 2) (.t 41), none⟩,
    ⟨(some 6), .alloc [(.int .u8 0), (.int .i64 0)], none⟩,
    ⟨none, .store 2 (.t 6) (.t 42), none⟩])
  (.seq (.region [4] [⟨(some 43), .fieldA 1 (.t 6), none⟩,
    ⟨(some 44), .load none (.t 43), none⟩,
    ⟨(some 45), .bin .eql (.t 44) (.c (.int .i64 7777)), none⟩,
    ⟨(some 4), .mv (.t 45), none⟩])
  .ret)))))⟩

/-- gearbox/show.Check · 2 parameters, 0 captured -/
def x646 : XFun := ⟨[.tmp 4],
  (.seq (.region [2, 3] [⟨(some 2), .box 1 (.t 0), none⟩,
    ⟨(some 3), .box 2 (.t 1), none⟩,
    ⟨(some 4), .mv (.c (.bool false)), none⟩])
  (.seq (.region [4] [⟨(some 5), .load none (.t 2), none⟩,
    ⟨(some 6), .load (some 2) (.t 3), none⟩,
    ⟨(some 7), .call .share 656 [(.t 5), (.t 6)], none⟩,
    ⟨(some 8), .mv (.t 7), none⟩,
    ⟨(some 9), .load none (.t 2), some (8, true)⟩,
    ⟨(some 10), .load (some 2) (.t 3), some (8, true)⟩,
    ⟨(some 11), .buildSlice 2 [(.int .u8 0), (.int .i64 0)] 1 [(0, 2, (.t 10))], some (8, true)⟩,
    ⟨(some 12), .call .share 654 [(.t 9), (.t 11)], some (8, true)⟩,
    ⟨(some 13), .mkClo 647 [(.t 2)], some (8, true)⟩,
    ⟨(some 14), .call .share 745 [(.t 12), (.t 13)], some (8, true)⟩,
    ⟨(some 15), .un .not (.t 14), some (8, true)⟩,
    ⟨(some 16), .pick (.t 8) (.t 15) (.c (.bool false)), none⟩,
    ⟨(some 4), .mv (.t 16), none⟩])
  .ret))⟩

def x500L1 : XCode :=
  (.seq (.seq (.region [0, 5, 6, 18] [⟨(some 15), .mv (.t 6), none⟩,
    ⟨(some 16), .mv (.t 5), none⟩,
    ⟨(some 17), .len (.t 16), none⟩,
    ⟨(some 18), .bin .lss (.t 15) (.t 17), none⟩])
  (.cond (.t 18)
    .skip
    (.exit 0)))
  (.seq (.block 1 (.seq (.region [0, 5, 6, 33] [⟨(some 21), .mv (.t 5), none⟩,
    ⟨(some 22), .mv (.t 6), none⟩,
    ⟨(some 23), .idxA 1 (.t 21) (.t 22), none⟩,
    ⟨(some 24), .load none (.t 23), none⟩,
    ⟨(some 25), .mv (.t 24), none⟩,
    ⟨(some 26), .mv (.t 0), some (25, true)⟩,
    ⟨(some 27), .mv (.t 0), some (25, true)⟩,
    ⟨(some 28), .mv (.t 6), some (25, true)⟩,
    ⟨(some 29), .idxA 5 (.t 27) (.t 28), some (25, true)⟩,
    ⟨(some 30), .load (some 5) (.t 29), some (25, true)⟩,
    ⟨(some 31), .call .view 508 [(.t 26), (.t 30)], some (25, true)⟩,
    ⟨(some 32), .un .not (.t 31), some (25, true)⟩,
    ⟨(some 33), .pick (.t 25) (.t 32) (.c (.bool false)), none⟩])
  (.cond (.t 33)
    (.seq (.region [4] [⟨(some 4), .mv (.c (.bool false)), none⟩])
    .ret)
    .skip)))
  (.region [0, 5, 6] [⟨(some 19), .mv (.t 6), none⟩,
    ⟨(some 20), .bin .add (.t 19) (.c (.int .i64 1)), none⟩,
    ⟨(some 6), .mv (.t 20), none⟩])))
/-- gearbox/gearboxref04.Check · 2 parameters, 0 captured -/
def x500 : XFun := ⟨[.tmp 4],
  (.seq (.region [0, 3] [⟨(some 3), .box 2 (.t 1), none⟩,
    ⟨(some 4), .mv (.c (.bool false)), none⟩])
  (.seq (.seq (.region [0, 3, 10] [⟨(some 7), .mv (.t 0), none⟩,
    ⟨(some 8), .load (some 2) (.t 3), none⟩,
    ⟨(some 9), .call .view 510 [(.t 7), (.t 8)], none⟩,
    ⟨(some 10), .un .not (.t 9), none⟩])
  (.cond (.t 10)
    (.seq (.region [4] [⟨(some 4), .mv (.c (.bool false)), none⟩])
    .ret)
    .skip))
  (.seq (.region [0, 5] [⟨(some 11), .mv (.t 0), none⟩,
    ⟨(some 12), .load (some 2) (.t 3), none⟩,
    ⟨(some 13), .buildSlice 2 [(.int .u8 0), (.int .i64 0)] 1 [(0, 2, (.t 12))], none⟩,
    ⟨(some 14), .call .own 509 [(.t 11), (.t 13)], none⟩,
    ⟨(some 5), .mv (.t 14), none⟩])
  (.seq (.seq (.region [0, 5, 6] [⟨(some 6), .mv (.c (.int .i64 0)), none⟩])
  (.block 0 (.loop [0, 5, 6] x500L1)))
  (.seq (.region [4] [⟨(some 4), .mv (.c (.bool true)), none⟩])
  .ret)))))⟩

def x303L1 : XCode :=
  (.seq (.seq (.region [0, 3, 4, 8] [⟨(some 5), .mv (.t 4), none⟩,
    ⟨(some 6), .mv (.t 0), none⟩,
    ⟨(some 7), .len (.t 6), none⟩,
    ⟨(some 8), .bin .lss (.t 5) (.t 7), none⟩])
  (.cond (.t 8)
    .skip
    (.exit 0)))
  (.seq (.block 1 (.seq (.region [0, 3, 4] [⟨(some 11), .mv (.t 3), none⟩,
    ⟨(some 12), .mv (.t 0), none⟩,
    ⟨(some 13), .mv (.t 4), none⟩,
    ⟨(some 14), .idxA 1 (.t 12) (.t 13), none⟩,
    ⟨(some 15), .load none (.t 14), none⟩,
    ⟨(some 16), .bin .add (.t 11) (.t 15), none⟩,
    ⟨(some 3), .mv (.t 16), none⟩])
  (.seq (.region [0, 3, 4, 18] [⟨(some 17), .mv (.t 3), none⟩,
    ⟨(some 18), .bin .gtr (.t 17) (.c (.int .i64 1048576)), none⟩])
  (.cond (.t 18)
    (.seq (.region [2] [⟨(some 2), .mv (.c (.bool true)), none⟩])
    .ret)
    .skip))))
  (.region [0, 3, 4] [⟨(some 9), .mv (.t 4), none⟩,
    ⟨(some 10), .bin .add (.t 9) (.c (.int .i64 1)), none⟩,
    ⟨(some 4), .mv (.t 10), none⟩])))
/-- gearbox/gearboxlaw01.Beyond · 1 parameters, 0 captured -/
def x303 : XFun := ⟨[.tmp 2],
  (.seq (.region [0] [⟨(some 2), .mv (.c (.bool false)), none⟩])
  (.seq (.region [0, 3] [⟨(some 3), .mv (.c (.int .i64 0)), none⟩])
  (.seq (.seq (.region [0, 3, 4] [⟨(some 4), .mv (.c (.int .i64 0)), none⟩])
  (.block 0 (.loop [0, 3, 4] x303L1)))
  (.seq (.region [2] [⟨(some 2), .mv (.c (.bool false)), none⟩])
  .ret))))⟩

/-- gearbox/gearboxlaw01.StoreSize · 1 parameters, 0 captured -/
def x361 : XFun := ⟨[.tmp 2],
  (.seq (.region [0] [⟨(some 2), .mv (.c (.int .i64 0)), none⟩])
  (.seq (.region [2] [⟨(some 3), .mv (.t 0), none⟩,
    ⟨(some 4), .call .view 339 [(.t 3)], none⟩,
    ⟨(some 2), .mv (.t 4), none⟩])
  .ret))⟩

def x373L1 : XCode :=
  (.seq (.seq (.region [0, 3, 4, 12] [⟨(some 9), .mv (.t 4), none⟩,
    ⟨(some 10), .mv (.t 0), none⟩,
    ⟨(some 11), .len (.t 10), none⟩,
    ⟨(some 12), .bin .lss (.t 9) (.t 11), none⟩])
  (.cond (.t 12)
    .skip
    (.exit 0)))
  (.seq (.block 1 (.region [0, 3, 4] [⟨(some 15), .mv (.t 3), none⟩,
    ⟨(some 16), .mv (.t 0), none⟩,
    ⟨(some 17), .mv (.t 4), none⟩,
    ⟨(some 18), .idxA 5 (.t 16) (.t 17), none⟩,
    ⟨(some 19), .load (some 5) (.t 18), none⟩,
    ⟨(some 20), .call .view 372 [(.t 19)], none⟩,
    ⟨(some 21), .buildSlice 5 [(.int .u8 0), (.string .empty), (.slice none 0 0), (.int .i64 0), (.int .i64 0)] 1 [(0, 5, (.t 20))], none⟩,
    ⟨(some 22), .append 5 64 (.t 15) (.t 21), none⟩,
    ⟨(some 3), .mv (.t 22), none⟩]))
  (.region [0, 3, 4] [⟨(some 13), .mv (.t 4), none⟩,
    ⟨(some 14), .bin .add (.t 13) (.c (.int .i64 1)), none⟩,
    ⟨(some 4), .mv (.t 14), none⟩])))
/-- gearbox/gearboxlaw01.TwinObjs · 1 parameters, 0 captured -/
def x373 : XFun := ⟨[.tmp 2],
  (.seq (.region [0] [⟨(some 2), .mv (.c (.slice none 0 0)), none⟩])
  (.seq (.region [0, 3] [⟨(some 5), .mv (.t 0), none⟩,
    ⟨(some 6), .len (.t 5), none⟩,
    ⟨(some 7), .bin .add (.t 6) (.c (.int .i64 1)), none⟩,
    ⟨(some 8), .makeSlice 5 64 [(.int .u8 0), (.string .empty), (.slice none 0 0), (.int .i64 0), (.int .i64 0)] (.c (.int .i64 0)) (.t 7), none⟩,
    ⟨(some 3), .mv (.t 8), none⟩])
  (.seq (.seq (.region [0, 3, 4] [⟨(some 4), .mv (.c (.int .i64 0)), none⟩])
  (.block 0 (.loop [0, 3, 4] x373L1)))
  (.seq (.region [2] [⟨(some 23), .mv (.t 3), none⟩,
    ⟨(some 24), .build [(.int .u8 0), (.string .empty), (.slice none 0 0), (.int .i64 0), (.int .i64 0)] [(1, 1, (.c (.string ⟨#[115, 112, 97, 114, 101]⟩)))], none⟩,
    ⟨(some 25), .buildSlice 5 [(.int .u8 0), (.string .empty), (.slice none 0 0), (.int .i64 0), (.int .i64 0)] 1 [(0, 5, (.t 24))], none⟩,
    ⟨(some 26), .append 5 64 (.t 23) (.t 25), none⟩,
    ⟨(some 27), .mv (.t 0), none⟩,
    ⟨(some 28), .len (.t 27), none⟩,
    ⟨(some 29), .slice 5 (.t 26) none (some (.t 28)), none⟩,
    ⟨(some 2), .mv (.t 29), none⟩])
  .ret))))⟩

def x654L1 : XCode :=
  (.seq (.seq (.region [4, 6, 7, 16] [⟨(some 13), .mv (.t 7), none⟩,
    ⟨(some 14), .load none (.t 4), none⟩,
    ⟨(some 15), .len (.t 14), none⟩,
    ⟨(some 16), .bin .lss (.t 13) (.t 15), none⟩])
  (.cond (.t 16)
    .skip
    (.exit 0)))
  (.seq (.block 1 (.region [4, 6, 7] [⟨(some 19), .mv (.t 6), none⟩,
    ⟨(some 20), .load none (.t 4), none⟩,
    ⟨(some 21), .mv (.t 7), none⟩,
    ⟨(some 22), .idxA 1 (.t 20) (.t 21), none⟩,
    ⟨(some 23), .load none (.t 22), none⟩,
    ⟨(some 24), .nilCheck (.t 23), none⟩,
    ⟨(some 25), .fieldA 2 (.t 24), none⟩,
    ⟨(some 26), .load none (.t 25), none⟩,
    ⟨(some 27), .callV (.t 19) [(.t 26)], none⟩]))
  (.region [4, 6, 7] [⟨(some 17), .mv (.t 7), none⟩,
    ⟨(some 18), .bin .add (.t 17) (.c (.int .i64 1)), none⟩,
    ⟨(some 7), .mv (.t 18), none⟩])))
/-- gearbox/show.reach · 2 parameters, 0 captured -/
def x654 : XFun := ⟨[.cell 4 none],
  (.seq (.region [1, 2, 4] [⟨(some 2), .box 1 (.t 0), none⟩,
    ⟨(some 4), .alloc [(.slice none 0 0)], none⟩])
  (.seq (.region [1, 2, 4, 5] [⟨(some 8), .makeMap none, none⟩,
    ⟨(some 5), .alloc [(.map none)], none⟩,
    ⟨none, .store 1 (.t 5) (.t 8), none⟩])
  (.seq (.region [1, 4, 6] [⟨(some 9), .mkClo 655 [(.t 2), (.t 5), (.t 4)], none⟩,
    ⟨(some 6), .mv (.t 9), none⟩])
  (.seq (.region [4, 6] [⟨(some 10), .mv (.t 6), none⟩,
    ⟨(some 11), .mv (.t 1), none⟩,
    ⟨(some 12), .callV (.t 10) [(.t 11)], none⟩])
  (.seq (.seq (.region [4, 6, 7] [⟨(some 7), .mv (.c (.int .i64 0)), none⟩])
  (.block 0 (.loop [4, 6, 7] x654L1)))
  (.seq (.region [4] [⟨(some 28), .load none (.t 4), none⟩,
    ⟨none, .store 1 (.t 4) (.t 28), none⟩])
  .ret))))))⟩

/-- gearbox/show.words · 1 parameters, 0 captured -/
def x657 : XFun := ⟨[.tmp 2],
  (.seq (.region [0] [⟨(some 2), .mv (.c (.int .i64 0)), none⟩])
  (.seq (.seq (.region [0, 6] [⟨(some 3), .mv (.t 0), none⟩,
    ⟨(some 4), .nilCheck (.t 3), none⟩,
    ⟨(some 5), .fieldA 0 (.t 4), none⟩,
    ⟨(some 6), .load none (.t 5), none⟩])
  (.block 0 (.seq (.region [0, 6, 7] [⟨(some 8), .bin .eql (.t 6) (.c (.int .u8 3)), none⟩,
    ⟨(some 7), .mv (.t 8), none⟩])
  (.cond (.t 7)
    (.seq (.region [2] [⟨(some 9), .mv (.t 0), none⟩,
      ⟨(some 10), .nilCheck (.t 9), none⟩,
      ⟨(some 11), .fieldA 1 (.t 10), none⟩,
      ⟨(some 12), .load none (.t 11), none⟩,
      ⟨(some 13), .lenS (.t 12), none⟩,
      ⟨(some 14), .bin .add (.t 13) (.c (.int .i64 7)), none⟩,
      ⟨(some 15), .bin .quo (.t 14) (.c (.int .i64 8)), none⟩,
      ⟨(some 16), .bin .add (.c (.int .i64 2)) (.t 15), none⟩,
      ⟨(some 2), .mv (.t 16), none⟩])
    .ret)
    (.seq (.seq (.region [0, 6, 17] [⟨(some 18), .bin .eql (.t 6) (.c (.int .u8 4)), none⟩,
      ⟨(some 17), .mv (.t 18), none⟩])
    (.cond (.t 17)
      .skip
      (.region [0, 6, 17] [⟨(some 19), .bin .eql (.t 6) (.c (.int .u8 5)), none⟩,
        ⟨(some 17), .mv (.t 19), none⟩])))
    (.cond (.t 17)
      (.seq (.seq (.region [0, 24] [⟨(some 20), .mv (.t 0), none⟩,
        ⟨(some 21), .nilCheck (.t 20), none⟩,
        ⟨(some 22), .fieldA 3 (.t 21), none⟩,
        ⟨(some 23), .load none (.t 22), none⟩,
        ⟨(some 24), .bin .gtr (.t 23) (.c (.int .i64 0)), none⟩])
      (.cond (.t 24)
        (.seq (.region [2] [⟨(some 25), .mv (.t 0), none⟩,
          ⟨(some 26), .nilCheck (.t 25), none⟩,
          ⟨(some 27), .fieldA 3 (.t 26), none⟩,
          ⟨(some 28), .load none (.t 27), none⟩,
          ⟨(some 29), .bin .mul (.c (.int .i64 2)) (.t 28), none⟩,
          ⟨(some 30), .bin .add (.c (.int .i64 4)) (.t 29), none⟩,
          ⟨(some 2), .mv (.t 30), none⟩])
        .ret)
        .skip))
      (.seq (.region [2] [⟨(some 2), .mv (.c (.int .i64 3)), none⟩])
      .ret))
      (.seq (.region [0, 31] [⟨(some 32), .bin .eql (.t 6) (.c (.int .u8 6)), none⟩,
        ⟨(some 31), .mv (.t 32), none⟩])
      (.cond (.t 31)
        (.seq (.region [2] [⟨(some 33), .mv (.t 0), none⟩,
          ⟨(some 34), .nilCheck (.t 33), none⟩,
          ⟨(some 35), .fieldA 2 (.t 34), none⟩,
          ⟨(some 36), .load none (.t 35), none⟩,
          ⟨(some 37), .len (.t 36), none⟩,
          ⟨(some 38), .bin .mul (.c (.int .i64 2)) (.t 37), none⟩,
          ⟨(some 39), .bin .add (.c (.int .i64 2)) (.t 38), none⟩,
          ⟨(some 2), .mv (.t 39), none⟩])
        .ret)
        .skip))))))))
  (.seq (.region [2] [⟨(some 2), .mv (.c (.int .i64 3)), none⟩])
  .ret)))⟩

def x509L1 : XCode :=
  (.seq (.seq (.region [0, 5, 6, 16] [⟨(some 14), .mv (.t 6), none⟩,
    ⟨(some 15), .len (.t 14), none⟩,
    ⟨(some 16), .bin .gtr (.t 15) (.c (.int .i64 0)), none⟩])
  (.cond (.t 16)
    .skip
    (.exit 0)))
  (.block 1 (.seq (.region [0, 5, 6, 7] [⟨(some 17), .mv (.t 0), none⟩,
    ⟨(some 18), .mv (.t 6), none⟩,
    ⟨(some 19), .mv (.t 6), none⟩,
    ⟨(some 20), .len (.t 19), none⟩,
    ⟨(some 21), .bin .sub (.t 20) (.c (.int .i64 1)), none⟩,
    ⟨(some 22), .idxA 2 (.t 18) (.t 21), none⟩,
    ⟨(some 23), .load (some 2) (.t 22), none⟩,
    ⟨(some 24), .call .view 502 [(.t 17), (.t 23)], none⟩,
    ⟨(some 7), .mv (.t 24), none⟩])
  (.seq (.region [0, 5, 6, 7] [⟨(some 25), .mv (.t 6), none⟩,
    ⟨(some 26), .mv (.t 6), none⟩,
    ⟨(some 27), .len (.t 26), none⟩,
    ⟨(some 28), .bin .sub (.t 27) (.c (.int .i64 1)), none⟩,
    ⟨(some 29), .slice 2 (.t 25) none (some (.t 28)), none⟩,
    ⟨(some 6), .mv (.t 29), none⟩])
  (.seq (.region [0, 5, 6, 7, 38] [⟨(some 30), .mv (.t 7), none⟩,
    ⟨(some 31), .bin .geq (.t 30) (.c (.int .i64 0)), none⟩,
    ⟨(some 32), .mv (.t 31), none⟩,
    ⟨(some 33), .mv (.t 5), some (32, true)⟩,
    ⟨(some 34), .mv (.t 7), some (32, true)⟩,
    ⟨(some 35), .idxA 1 (.t 33) (.t 34), some (32, true)⟩,
    ⟨(some 36), .load none (.t 35), some (32, true)⟩,
    ⟨(some 37), .un .not (.t 36), some (32, true)⟩,
    ⟨(some 38), .pick (.t 32) (.t 37) (.c (.bool false)), none⟩])
  (.cond (.t 38)
    (.seq (.region [0, 5, 6, 7] [⟨(some 39), .mv (.t 5), none⟩,
      ⟨(some 40), .mv (.t 7), none⟩,
      ⟨(some 41), .idxA 1 (.t 39) (.t 40), none⟩,
      ⟨none, .store 1 (.t 41) (.c (.bool true)), none⟩])
    (.region [0, 5, 6] [⟨(some 42), .mv (.t 6), none⟩,
      ⟨(some 43), .mv (.t 0), none⟩,
      ⟨(some 44), .mv (.t 7), none⟩,
      ⟨(some 45), .idxA 5 (.t 43) (.t 44), none⟩,
      ⟨(some 46), .fieldA 2 (.t 45), none⟩,
      ⟨(some 47), .load none (.t 46), none⟩,
      ⟨(some 48), .append 2 16 (.t 42) (.t 47), none⟩,
      ⟨(some 6), .mv (.t 48), none⟩]))
    .skip))))))
/-- gearbox/gearboxref04.reached · 2 parameters, 0 captured -/
def x509 : XFun := ⟨[.tmp 4],
  (.seq (.region [0, 1] [⟨(some 4), .mv (.c (.slice none 0 0)), none⟩])
  (.seq (.region [0, 1, 5] [⟨(some 8), .mv (.t 0), none⟩,
    ⟨(some 9), .len (.t 8), none⟩,
    ⟨(some 10), .makeSlice 1 1 [(.bool false)] (.t 9) (.t 9), none⟩,
    ⟨(some 5), .mv (.t 10), none⟩])
  (.seq (.region [0, 1, 5, 6] [⟨(some 6), .mv (.c (.slice none 0 0)), none⟩])
  (.seq (.region [0, 5, 6] [⟨(some 11), .mv (.t 6), none⟩,
    ⟨(some 12), .mv (.t 1), none⟩,
    ⟨(some 13), .append 2 16 (.t 11) (.t 12), none⟩,
    ⟨(some 6), .mv (.t 13), none⟩])
  (.seq (.block 0 (.loop [0, 5, 6] x509L1))
  (.seq (.region [4] [⟨(some 49), .mv (.t 5), none⟩,
    ⟨(some 4), .mv (.t 49), none⟩])
  .ret))))))⟩

def x330L1 : XCode :=
  (.seq (.seq (.region [0, 1, 5, 22] [⟨(some 19), .mv (.t 5), none⟩,
    ⟨(some 20), .mv (.t 1), none⟩,
    ⟨(some 21), .len (.t 20), none⟩,
    ⟨(some 22), .bin .lss (.t 19) (.t 21), none⟩])
  (.cond (.t 22)
    .skip
    (.exit 0)))
  (.seq (.block 1 (.seq (.region [0, 1, 5, 34] [⟨(some 25), .mv (.t 0), none⟩,
    ⟨(some 26), .mv (.t 5), none⟩,
    ⟨(some 27), .idxA 5 (.t 25) (.t 26), none⟩,
    ⟨(some 28), .load (some 5) (.t 27), none⟩,
    ⟨(some 29), .mv (.t 1), none⟩,
    ⟨(some 30), .mv (.t 5), none⟩,
    ⟨(some 31), .idxA 5 (.t 29) (.t 30), none⟩,
    ⟨(some 32), .load (some 5) (.t 31), none⟩,
    ⟨(some 33), .call .view 329 [(.t 28), (.t 32)], none⟩,
    ⟨(some 34), .un .not (.t 33), none⟩])
  (.cond (.t 34)
    (.seq (.region [4] [⟨(some 4), .mv (.c (.bool false)), none⟩])
    .ret)
    .skip)))
  (.region [0, 1, 5] [⟨(some 23), .mv (.t 5), none⟩,
    ⟨(some 24), .bin .add (.t 23) (.c (.int .i64 1)), none⟩,
    ⟨(some 5), .mv (.t 24), none⟩])))
/-- gearbox/gearboxlaw01.LeftObjs · 2 parameters, 0 captured -/
def x330 : XFun := ⟨[.tmp 4],
  (.seq (.region [0, 1] [⟨(some 4), .mv (.c (.bool false)), none⟩])
  (.seq (.seq (.region [0, 1, 18] [⟨(some 7), .mv (.t 0), none⟩,
    ⟨(some 8), .len (.t 7), none⟩,
    ⟨(some 9), .mv (.t 1), none⟩,
    ⟨(some 10), .len (.t 9), none⟩,
    ⟨(some 11), .bin .neq (.t 8) (.t 10), none⟩,
    ⟨(some 12), .mv (.t 11), none⟩,
    ⟨(some 13), .mv (.t 0), some (12, false)⟩,
    ⟨(some 14), .cap (.t 13), some (12, false)⟩,
    ⟨(some 15), .mv (.t 1), some (12, false)⟩,
    ⟨(some 16), .len (.t 15), some (12, false)⟩,
    ⟨(some 17), .bin .leq (.t 14) (.t 16), some (12, false)⟩,
    ⟨(some 18), .pick (.t 12) (.c (.bool true)) (.t 17), none⟩])
  (.cond (.t 18)
    (.seq (.region [4] [⟨(some 4), .mv (.c (.bool false)), none⟩])
    .ret)
    .skip))
  (.seq (.seq (.region [0, 1, 5] [⟨(some 5), .mv (.c (.int .i64 0)), none⟩])
  (.block 0 (.loop [0, 1, 5] x330L1)))
  (.seq (.region [6] [⟨(some 35), .mv (.t 0), none⟩,
    ⟨(some 36), .mv (.t 1), none⟩,
    ⟨(some 37), .len (.t 36), none⟩,
    ⟨(some 38), .bin .add (.t 37) (.c (.int .i64 1)), none⟩,
    ⟨(some 39), .slice 5 (.t 35) none (some (.t 38)), none⟩,
    ⟨(some 40), .mv (.t 1), none⟩,
    ⟨(some 41), .len (.t 40), none⟩,
    ⟨(some 42), .idxA 5 (.t 39) (.t 41), none⟩,
    ⟨(some 43), .load (some 5) (.t 42), none⟩,
    ⟨(some 6), .alloc [(.int .u8 0), (.string .empty), (.slice none 0 0), (.int .i64 0), (.int .i64 0)], none⟩,
    ⟨none, .store 5 (.t 6) (.t 43), none⟩])
  (.seq (.region [4] [⟨(some 44), .fieldA 1 (.t 6), none⟩,
    ⟨(some 45), .load none (.t 44), none⟩,
    ⟨(some 46), .bin .eql (.t 45) (.c (.string ⟨#[115, 112, 97, 114, 101]⟩)), none⟩,
    ⟨(some 4), .mv (.t 46), none⟩])
  .ret)))))⟩

/-- gearbox/show.val · 2 parameters, 0 captured -/
def x656 : XFun := ⟨[.tmp 4],
  (.seq (.region [0, 3] [⟨(some 3), .box 2 (.t 1), none⟩,
    ⟨(some 4), .mv (.c (.bool false)), none⟩])
  (.seq (.seq (.region [0, 3, 6] [⟨(some 5), .fieldA 0 (.t 3), none⟩,
    ⟨(some 6), .load none (.t 5), none⟩])
  (.block 0 (.seq (.region [0, 3, 6, 7] [⟨(some 8), .bin .eql (.t 6) (.c (.int .u8 0)), none⟩,
    ⟨(some 7), .mv (.t 8), none⟩])
  (.cond (.t 7)
    (.seq (.region [4] [⟨(some 9), .fieldA 1 (.t 3), none⟩,
      ⟨(some 10), .load none (.t 9), none⟩,
      ⟨(some 11), .bin .eql (.t 10) (.c (.int .i64 0)), none⟩,
      ⟨(some 4), .mv (.t 11), none⟩])
    .ret)
    (.seq (.region [0, 3, 6, 12] [⟨(some 13), .bin .eql (.t 6) (.c (.int .u8 1)), none⟩,
      ⟨(some 12), .mv (.t 13), none⟩])
    (.cond (.t 12)
      (.seq (.region [4] [⟨(some 14), .fieldA 1 (.t 3), none⟩,
        ⟨(some 15), .load none (.t 14), none⟩,
        ⟨(some 16), .bin .eql (.t 15) (.c (.int .i64 0)), none⟩,
        ⟨(some 17), .mv (.t 16), none⟩,
        ⟨(some 18), .fieldA 1 (.t 3), some (17, false)⟩,
        ⟨(some 19), .load none (.t 18), some (17, false)⟩,
        ⟨(some 20), .bin .eql (.t 19) (.c (.int .i64 1)), some (17, false)⟩,
        ⟨(some 21), .pick (.t 17) (.c (.bool true)) (.t 20), none⟩,
        ⟨(some 4), .mv (.t 21), none⟩])
      .ret)
      (.seq (.region [0, 3, 22] [⟨(some 23), .bin .eql (.t 6) (.c (.int .u8 2)), none⟩,
        ⟨(some 22), .mv (.t 23), none⟩])
      (.cond (.t 22)
        (.seq (.region [4] [⟨(some 4), .mv (.c (.bool true)), none⟩])
        .ret)
        .skip))))))))
  (.seq (.region [4] [⟨(some 24), .mv (.t 0), none⟩,
    ⟨(some 25), .load (some 2) (.t 3), none⟩,
    ⟨(some 26), .call .share 651 [(.t 24), (.t 25)], none⟩,
    ⟨(some 27), .eqNil true 1 (.t 26), none⟩,
    ⟨(some 4), .mv (.t 27), none⟩])
  .ret)))⟩

/-- slices.ContainsFunc[[]*gearbox/api.Obj,*gearbox/api.Obj] · 2 parameters, 0 captured -/
def x745 : XFun := ⟨[.tmp 4],
  (.seq (.region [0, 1] [⟨(some 4), .mv (.c (.bool false)), none⟩])
  (.seq (.region [4] [⟨(some 5), .mv (.t 0), none⟩,
    ⟨(some 6), .mv (.t 1), none⟩,
    ⟨(some 7), .call .share 755 [(.t 5), (.t 6)], none⟩,
    ⟨(some 8), .bin .geq (.t 7) (.c (.int .i64 0)), none⟩,
    ⟨(some 4), .mv (.t 8), none⟩])
  .ret))⟩

/-- gearbox/show.Check$1 · 1 parameters, 1 captured -/
def x647 : XFun := ⟨[.tmp 3],
  (.seq (.region [0, 1] [⟨(some 3), .mv (.c (.bool false)), none⟩])
  (.seq (.region [3] [⟨(some 4), .load none (.t 1), none⟩,
    ⟨(some 5), .mv (.t 0), none⟩,
    ⟨(some 6), .call .share 652 [(.t 4), (.t 5)], none⟩,
    ⟨(some 7), .un .not (.t 6), none⟩,
    ⟨(some 3), .mv (.t 7), none⟩])
  .ret))⟩

/-- gearbox/show.may · 2 parameters, 0 captured -/
def x652 : XFun := ⟨[.tmp 4],
  (.seq (.region [2, 3] [⟨(some 2), .box 1 (.t 0), none⟩,
    ⟨(some 3), .box 1 (.t 1), none⟩,
    ⟨(some 4), .mv (.c (.bool false)), none⟩])
  (.seq (.region [2, 3, 5] [⟨(some 7), .load none (.t 3), none⟩,
    ⟨(some 8), .nilCheck (.t 7), none⟩,
    ⟨(some 9), .fieldA 2 (.t 8), none⟩,
    ⟨(some 10), .load none (.t 9), none⟩,
    ⟨(some 11), .len (.t 10), none⟩,
    ⟨(some 5), .mv (.t 11), none⟩])
  (.seq (.region [2, 3, 5, 6] [⟨(some 12), .load none (.t 3), none⟩,
    ⟨(some 13), .nilCheck (.t 12), none⟩,
    ⟨(some 14), .fieldA 1 (.t 13), none⟩,
    ⟨(some 15), .load none (.t 14), none⟩,
    ⟨(some 16), .bin .eql (.t 15) (.c (.string .empty)), none⟩,
    ⟨(some 17), .mv (.t 16), none⟩,
    ⟨(some 18), .load none (.t 3), some (17, true)⟩,
    ⟨(some 19), .nilCheck (.t 18), some (17, true)⟩,
    ⟨(some 20), .fieldA 4 (.t 19), some (17, true)⟩,
    ⟨(some 21), .load none (.t 20), some (17, true)⟩,
    ⟨(some 22), .bin .eql (.t 21) (.c (.int .i64 0)), some (17, true)⟩,
    ⟨(some 23), .pick (.t 17) (.t 22) (.c (.bool false)), none⟩,
    ⟨(some 24), .mv (.t 23), none⟩,
    ⟨(some 25), .load none (.t 3), some (24, true)⟩,
    ⟨(some 26), .nilCheck (.t 25), some (24, true)⟩,
    ⟨(some 27), .fieldA 3 (.t 26), some (24, true)⟩,
    ⟨(some 28), .load none (.t 27), some (24, true)⟩,
    ⟨(some 29), .mv (.t 5), some (24, true)⟩,
    ⟨(some 30), .bin .geq (.t 28) (.t 29), some (24, true)⟩,
    ⟨(some 31), .pick (.t 24) (.t 30) (.c (.bool false)), none⟩,
    ⟨(some 32), .mv (.t 31), none⟩,
    ⟨(some 33), .load none (.t 3), some (32, true)⟩,
    ⟨(some 34), .nilCheck (.t 33), some (32, true)⟩,
    ⟨(some 35), .fieldA 3 (.t 34), some (32, true)⟩,
    ⟨(some 36), .load none (.t 35), some (32, true)⟩,
    ⟨(some 37), .bin .leq (.t 36) (.c (.int .i64 262144)), some (32, true)⟩,
    ⟨(some 38), .pick (.t 32) (.t 37) (.c (.bool false)), none⟩,
    ⟨(some 6), .mv (.t 38), none⟩])
  (.seq (.seq (.region [2, 3, 5, 6, 44] [⟨(some 39), .load none (.t 3), none⟩,
    ⟨(some 40), .nilCheck (.t 39), none⟩,
    ⟨(some 41), .fieldA 2 (.t 40), none⟩,
    ⟨(some 42), .load none (.t 41), none⟩,
    ⟨(some 43), .mkClo 653 [(.t 2), (.t 3)], none⟩,
    ⟨(some 44), .call .share 749 [(.t 42), (.t 43)], none⟩])
  (.cond (.t 44)
    (.seq (.region [4] [⟨(some 4), .mv (.c (.bool false)), none⟩])
    .ret)
    .skip))
  (.seq (.seq (.region [2, 3, 5, 6, 48] [⟨(some 45), .load none (.t 3), none⟩,
    ⟨(some 46), .nilCheck (.t 45), none⟩,
    ⟨(some 47), .fieldA 0 (.t 46), none⟩,
    ⟨(some 48), .load none (.t 47), none⟩])
  (.block 0 (.seq (.region [2, 3, 5, 6, 48, 49] [⟨(some 50), .bin .eql (.t 48) (.c (.int .u8 3)), none⟩,
    ⟨(some 49), .mv (.t 50), none⟩])
  (.cond (.t 49)
    (.seq (.region [4] [⟨(some 51), .load none (.t 3), none⟩,
      ⟨(some 52), .nilCheck (.t 51), none⟩,
      ⟨(some 53), .fieldA 1 (.t 52), none⟩,
      ⟨(some 54), .load none (.t 53), none⟩,
      ⟨(some 55), .lenS (.t 54), none⟩,
      ⟨(some 56), .bin .leq (.t 55) (.c (.int .i64 4096)), none⟩,
      ⟨(some 57), .mv (.t 56), none⟩,
      ⟨(some 58), .mv (.t 5), some (57, true)⟩,
      ⟨(some 59), .bin .eql (.t 58) (.c (.int .i64 0)), some (57, true)⟩,
      ⟨(some 60), .pick (.t 57) (.t 59) (.c (.bool false)), none⟩,
      ⟨(some 61), .mv (.t 60), none⟩,
      ⟨(some 62), .load none (.t 3), some (61, true)⟩,
      ⟨(some 63), .nilCheck (.t 62), some (61, true)⟩,
      ⟨(some 64), .fieldA 3 (.t 63), some (61, true)⟩,
      ⟨(some 65), .load none (.t 64), some (61, true)⟩,
      ⟨(some 66), .bin .eql (.t 65) (.c (.int .i64 0)), some (61, true)⟩,
      ⟨(some 67), .pick (.t 61) (.t 66) (.c (.bool false)), none⟩,
      ⟨(some 68), .mv (.t 67), none⟩,
      ⟨(some 69), .load none (.t 3), some (68, true)⟩,
      ⟨(some 70), .nilCheck (.t 69), some (68, true)⟩,
      ⟨(some 71), .fieldA 4 (.t 70), some (68, true)⟩,
      ⟨(some 72), .load none (.t 71), some (68, true)⟩,
      ⟨(some 73), .bin .eql (.t 72) (.c (.int .i64 0)), some (68, true)⟩,
      ⟨(some 74), .pick (.t 68) (.t 73) (.c (.bool false)), none⟩,
      ⟨(some 4), .mv (.t 74), none⟩])
    .ret)
    (.seq (.region [2, 3, 5, 6, 48, 75] [⟨(some 76), .bin .eql (.t 48) (.c (.int .u8 4)), none⟩,
      ⟨(some 75), .mv (.t 76), none⟩])
    (.cond (.t 75)
      (.seq (.region [4] [⟨(some 77), .mv (.t 6), none⟩,
        ⟨(some 78), .mv (.t 77), none⟩,
        ⟨(some 79), .mv (.t 5), some (78, true)⟩,
        ⟨(some 80), .bin .leq (.t 79) (.c (.int .i64 65536)), some (78, true)⟩,
        ⟨(some 81), .pick (.t 78) (.t 80) (.c (.bool false)), none⟩,
        ⟨(some 4), .mv (.t 81), none⟩])
      .ret)
      (.seq (.region [2, 3, 5, 6, 48, 82] [⟨(some 83), .bin .eql (.t 48) (.c (.int .u8 5)), none⟩,
        ⟨(some 82), .mv (.t 83), none⟩])
      (.cond (.t 82)
        (.seq (.region [4] [⟨(some 84), .mv (.t 6), none⟩,
          ⟨(some 85), .mv (.t 84), none⟩,
          ⟨(some 86), .mv (.t 5), some (85, true)⟩,
          ⟨(some 87), .bin .rem (.t 86) (.c (.int .i64 2)), some (85, true)⟩,
          ⟨(some 88), .bin .eql (.t 87) (.c (.int .i64 0)), some (85, true)⟩,
          ⟨(some 89), .pick (.t 85) (.t 88) (.c (.bool false)), none⟩,
          ⟨(some 90), .mv (.t 89), none⟩,
          ⟨(some 91), .mv (.t 5), some (90, true)⟩,
          ⟨(some 92), .bin .leq (.t 91) (.c (.int .i64 131072)), some (90, true)⟩,
          ⟨(some 93), .pick (.t 90) (.t 92) (.c (.bool false)), none⟩,
          ⟨(some 94), .mv (.t 93), none⟩,
          ⟨(some 95), .load none (.t 2), some (94, true)⟩,
          ⟨(some 96), .load none (.t 3), some (94, true)⟩,
          ⟨(some 97), .nilCheck (.t 96), some (94, true)⟩,
          ⟨(some 98), .fieldA 2 (.t 97), some (94, true)⟩,
          ⟨(some 99), .load none (.t 98), some (94, true)⟩,
          ⟨(some 100), .call .share 650 [(.t 95), (.t 99)], some (94, true)⟩,
          ⟨(some 101), .pick (.t 94) (.t 100) (.c (.bool false)), none⟩,
          ⟨(some 4), .mv (.t 101), none⟩])
        .ret)
        (.seq (.region [3, 5, 102] [⟨(some 103), .bin .eql (.t 48) (.c (.int .u8 6)), none⟩,
          ⟨(some 102), .mv (.t 103), none⟩])
        (.cond (.t 102)
          (.seq (.region [4] [⟨(some 104), .load none (.t 3), none⟩,
            ⟨(some 105), .nilCheck (.t 104), none⟩,
            ⟨(some 106), .fieldA 1 (.t 105), none⟩,
            ⟨(some 107), .load none (.t 106), none⟩,
            ⟨(some 108), .bin .eql (.t 107) (.c (.string .empty)), none⟩,
            ⟨(some 109), .mv (.t 108), none⟩,
            ⟨(some 110), .load none (.t 3), some (109, true)⟩,
            ⟨(some 111), .nilCheck (.t 110), some (109, true)⟩,
            ⟨(some 112), .fieldA 3 (.t 111), some (109, true)⟩,
            ⟨(some 113), .load none (.t 112), some (109, true)⟩,
            ⟨(some 114), .bin .eql (.t 113) (.c (.int .i64 0)), some (109, true)⟩,
            ⟨(some 115), .pick (.t 109) (.t 114) (.c (.bool false)), none⟩,
            ⟨(some 116), .mv (.t 115), none⟩,
            ⟨(some 117), .load none (.t 3), some (116, true)⟩,
            ⟨(some 118), .nilCheck (.t 117), some (116, true)⟩,
            ⟨(some 119), .fieldA 4 (.t 118), some (116, true)⟩,
            ⟨(some 120), .load none (.t 119), some (116, true)⟩,
            ⟨(some 121), .bin .geq (.t 120) (.c (.int .i64 0)), some (116, true)⟩,
            ⟨(some 122), .pick (.t 116) (.t 121) (.c (.bool false)), none⟩,
            ⟨(some 123), .mv (.t 122), none⟩,
            ⟨(some 124), .load none (.t 3), some (123, true)⟩,
            ⟨(some 125), .nilCheck (.t 124), some (123, true)⟩,
            ⟨(some 126), .fieldA 4 (.t 125), some (123, true)⟩,
            ⟨(some 127), .load none (.t 126), some (123, true)⟩,
            ⟨(some 128), .bin .lss (.t 127) (.c (.int .i64 256)), some (123, true)⟩,
            ⟨(some 129), .pick (.t 123) (.t 128) (.c (.bool false)), none⟩,
            ⟨(some 4), .mv (.t 129), none⟩])
          .ret)
          .skip))))))))))
  (.seq (.region [4] [⟨(some 130), .load none (.t 3), none⟩,
    ⟨(some 131), .nilCheck (.t 130), none⟩,
    ⟨(some 132), .fieldA 1 (.t 131), none⟩,
    ⟨(some 133), .load none (.t 132), none⟩,
    ⟨(some 134), .bin .eql (.t 133) (.c (.string .empty)), none⟩,
    ⟨(some 135), .mv (.t 134), none⟩,
    ⟨(some 136), .load none (.t 3), some (135, true)⟩,
    ⟨(some 137), .nilCheck (.t 136), some (135, true)⟩,
    ⟨(some 138), .fieldA 3 (.t 137), some (135, true)⟩,
    ⟨(some 139), .load none (.t 138), some (135, true)⟩,
    ⟨(some 140), .bin .eql (.t 139) (.c (.int .i64 0)), some (135, true)⟩,
    ⟨(some 141), .pick (.t 135) (.t 140) (.c (.bool false)), none⟩,
    ⟨(some 142), .mv (.t 141), none⟩,
    ⟨(some 143), .load none (.t 3), some (142, true)⟩,
    ⟨(some 144), .nilCheck (.t 143), some (142, true)⟩,
    ⟨(some 145), .fieldA 4 (.t 144), some (142, true)⟩,
    ⟨(some 146), .load none (.t 145), some (142, true)⟩,
    ⟨(some 147), .bin .eql (.t 146) (.c (.int .i64 0)), some (142, true)⟩,
    ⟨(some 148), .pick (.t 142) (.t 147) (.c (.bool false)), none⟩,
    ⟨(some 149), .mv (.t 148), none⟩,
    ⟨(some 150), .mv (.t 5), some (149, true)⟩,
    ⟨(some 151), .bin .eql (.t 150) (.c (.int .i64 1)), some (149, true)⟩,
    ⟨(some 152), .pick (.t 149) (.t 151) (.c (.bool false)), none⟩,
    ⟨(some 4), .mv (.t 152), none⟩])
  .ret))))))⟩

/-- gearbox/gearboxref04.val · 2 parameters, 0 captured -/
def x510 : XFun := ⟨[.tmp 4],
  (.seq (.region [0, 3] [⟨(some 3), .box 2 (.t 1), none⟩,
    ⟨(some 4), .mv (.c (.bool false)), none⟩])
  (.seq (.seq (.region [0, 3, 6] [⟨(some 5), .fieldA 0 (.t 3), none⟩,
    ⟨(some 6), .load none (.t 5), none⟩])
  (.block 0 (.seq (.region [0, 3, 6, 7] [⟨(some 8), .bin .eql (.t 6) (.c (.int .u8 0)), none⟩,
    ⟨(some 7), .mv (.t 8), none⟩])
  (.cond (.t 7)
    (.seq (.region [4] [⟨(some 9), .fieldA 1 (.t 3), none⟩,
      ⟨(some 10), .load none (.t 9), none⟩,
      ⟨(some 11), .bin .eql (.t 10) (.c (.int .i64 0)), none⟩,
      ⟨(some 4), .mv (.t 11), none⟩])
    .ret)
    (.seq (.region [0, 3, 6, 12] [⟨(some 13), .bin .eql (.t 6) (.c (.int .u8 1)), none⟩,
      ⟨(some 12), .mv (.t 13), none⟩])
    (.cond (.t 12)
      (.seq (.region [4] [⟨(some 14), .fieldA 1 (.t 3), none⟩,
        ⟨(some 15), .load none (.t 14), none⟩,
        ⟨(some 16), .bin .eql (.t 15) (.c (.int .i64 0)), none⟩,
        ⟨(some 17), .mv (.t 16), none⟩,
        ⟨(some 18), .fieldA 1 (.t 3), some (17, false)⟩,
        ⟨(some 19), .load none (.t 18), some (17, false)⟩,
        ⟨(some 20), .bin .eql (.t 19) (.c (.int .i64 1)), some (17, false)⟩,
        ⟨(some 21), .pick (.t 17) (.c (.bool true)) (.t 20), none⟩,
        ⟨(some 4), .mv (.t 21), none⟩])
      .ret)
      (.seq (.region [0, 3, 22] [⟨(some 23), .bin .eql (.t 6) (.c (.int .u8 2)), none⟩,
        ⟨(some 22), .mv (.t 23), none⟩])
      (.cond (.t 22)
        (.seq (.region [4] [⟨(some 4), .mv (.c (.bool true)), none⟩])
        .ret)
        .skip))))))))
  (.seq (.region [4] [⟨(some 24), .mv (.t 0), none⟩,
    ⟨(some 25), .load (some 2) (.t 3), none⟩,
    ⟨(some 26), .call .view 502 [(.t 24), (.t 25)], none⟩,
    ⟨(some 27), .bin .geq (.t 26) (.c (.int .i64 0)), none⟩,
    ⟨(some 4), .mv (.t 27), none⟩])
  .ret)))⟩

/-- gearbox/gearboxref04.obj · 2 parameters, 0 captured -/
def x508 : XFun := ⟨[.tmp 4],
  (.seq (.region [0, 3] [⟨(some 3), .box 5 (.t 1), none⟩,
    ⟨(some 4), .mv (.c (.bool false)), none⟩])
  (.seq (.region [0, 3, 5] [⟨(some 6), .fieldA 2 (.t 3), none⟩,
    ⟨(some 7), .load none (.t 6), none⟩,
    ⟨(some 8), .len (.t 7), none⟩,
    ⟨(some 5), .mv (.t 8), none⟩])
  (.seq (.seq (.region [0, 3, 5, 10] [⟨(some 9), .fieldA 0 (.t 3), none⟩,
    ⟨(some 10), .load none (.t 9), none⟩])
  (.block 0 (.seq (.region [0, 3, 5, 10, 11] [⟨(some 12), .bin .eql (.t 10) (.c (.int .u8 3)), none⟩,
    ⟨(some 11), .mv (.t 12), none⟩])
  (.cond (.t 11)
    (.seq (.region [4] [⟨(some 13), .fieldA 1 (.t 3), none⟩,
      ⟨(some 14), .load none (.t 13), none⟩,
      ⟨(some 15), .lenS (.t 14), none⟩,
      ⟨(some 16), .bin .leq (.t 15) (.c (.int .i64 4096)), none⟩,
      ⟨(some 17), .mv (.t 16), none⟩,
      ⟨(some 18), .mv (.t 5), some (17, true)⟩,
      ⟨(some 19), .bin .eql (.t 18) (.c (.int .i64 0)), some (17, true)⟩,
      ⟨(some 20), .pick (.t 17) (.t 19) (.c (.bool false)), none⟩,
      ⟨(some 21), .mv (.t 20), none⟩,
      ⟨(some 22), .fieldA 3 (.t 3), some (21, true)⟩,
      ⟨(some 23), .load none (.t 22), some (21, true)⟩,
      ⟨(some 24), .bin .eql (.t 23) (.c (.int .i64 0)), some (21, true)⟩,
      ⟨(some 25), .pick (.t 21) (.t 24) (.c (.bool false)), none⟩,
      ⟨(some 26), .mv (.t 25), none⟩,
      ⟨(some 27), .fieldA 4 (.t 3), some (26, true)⟩,
      ⟨(some 28), .load none (.t 27), some (26, true)⟩,
      ⟨(some 29), .bin .eql (.t 28) (.c (.int .i64 0)), some (26, true)⟩,
      ⟨(some 30), .pick (.t 26) (.t 29) (.c (.bool false)), none⟩,
      ⟨(some 4), .mv (.t 30), none⟩])
    .ret)
    (.seq (.region [0, 3, 5, 10, 31] [⟨(some 32), .bin .eql (.t 10) (.c (.int .u8 4)), none⟩,
      ⟨(some 31), .mv (.t 32), none⟩])
    (.cond (.t 31)
      (.seq (.region [4] [⟨(some 33), .fieldA 1 (.t 3), none⟩,
        ⟨(some 34), .load none (.t 33), none⟩,
        ⟨(some 35), .bin .eql (.t 34) (.c (.string .empty)), none⟩,
        ⟨(some 36), .mv (.t 35), none⟩,
        ⟨(some 37), .fieldA 4 (.t 3), some (36, true)⟩,
        ⟨(some 38), .load none (.t 37), some (36, true)⟩,
        ⟨(some 39), .bin .eql (.t 38) (.c (.int .i64 0)), some (36, true)⟩,
        ⟨(some 40), .pick (.t 36) (.t 39) (.c (.bool false)), none⟩,
        ⟨(some 41), .mv (.t 40), none⟩,
        ⟨(some 42), .mv (.t 5), some (41, true)⟩,
        ⟨(some 43), .bin .leq (.t 42) (.c (.int .i64 65536)), some (41, true)⟩,
        ⟨(some 44), .pick (.t 41) (.t 43) (.c (.bool false)), none⟩,
        ⟨(some 45), .mv (.t 44), none⟩,
        ⟨(some 46), .fieldA 3 (.t 3), some (45, true)⟩,
        ⟨(some 47), .load none (.t 46), some (45, true)⟩,
        ⟨(some 48), .mv (.t 5), some (45, true)⟩,
        ⟨(some 49), .bin .geq (.t 47) (.t 48), some (45, true)⟩,
        ⟨(some 50), .pick (.t 45) (.t 49) (.c (.bool false)), none⟩,
        ⟨(some 51), .mv (.t 50), none⟩,
        ⟨(some 52), .fieldA 3 (.t 3), some (51, true)⟩,
        ⟨(some 53), .load none (.t 52), some (51, true)⟩,
        ⟨(some 54), .bin .leq (.t 53) (.c (.int .i64 262144)), some (51, true)⟩,
        ⟨(some 55), .pick (.t 51) (.t 54) (.c (.bool false)), none⟩,
        ⟨(some 56), .mv (.t 55), none⟩,
        ⟨(some 57), .mv (.t 0), some (56, true)⟩,
        ⟨(some 58), .fieldA 2 (.t 3), some (56, true)⟩,
        ⟨(some 59), .load none (.t 58), some (56, true)⟩,
        ⟨(some 60), .call .view 506 [(.t 57), (.t 59), (.c (.bool false))], some (56, true)⟩,
        ⟨(some 61), .pick (.t 56) (.t 60) (.c (.bool false)), none⟩,
        ⟨(some 4), .mv (.t 61), none⟩])
      .ret)
      (.seq (.region [0, 3, 5, 10, 62] [⟨(some 63), .bin .eql (.t 10) (.c (.int .u8 5)), none⟩,
        ⟨(some 62), .mv (.t 63), none⟩])
      (.cond (.t 62)
        (.seq (.region [4] [⟨(some 64), .fieldA 1 (.t 3), none⟩,
          ⟨(some 65), .load none (.t 64), none⟩,
          ⟨(some 66), .bin .eql (.t 65) (.c (.string .empty)), none⟩,
          ⟨(some 67), .mv (.t 66), none⟩,
          ⟨(some 68), .fieldA 4 (.t 3), some (67, true)⟩,
          ⟨(some 69), .load none (.t 68), some (67, true)⟩,
          ⟨(some 70), .bin .eql (.t 69) (.c (.int .i64 0)), some (67, true)⟩,
          ⟨(some 71), .pick (.t 67) (.t 70) (.c (.bool false)), none⟩,
          ⟨(some 72), .mv (.t 71), none⟩,
          ⟨(some 73), .mv (.t 5), some (72, true)⟩,
          ⟨(some 74), .bin .rem (.t 73) (.c (.int .i64 2)), some (72, true)⟩,
          ⟨(some 75), .bin .eql (.t 74) (.c (.int .i64 0)), some (72, true)⟩,
          ⟨(some 76), .pick (.t 72) (.t 75) (.c (.bool false)), none⟩,
          ⟨(some 77), .mv (.t 76), none⟩,
          ⟨(some 78), .mv (.t 5), some (77, true)⟩,
          ⟨(some 79), .bin .leq (.t 78) (.c (.int .i64 131072)), some (77, true)⟩,
          ⟨(some 80), .pick (.t 77) (.t 79) (.c (.bool false)), none⟩,
          ⟨(some 81), .mv (.t 80), none⟩,
          ⟨(some 82), .fieldA 3 (.t 3), some (81, true)⟩,
          ⟨(some 83), .load none (.t 82), some (81, true)⟩,
          ⟨(some 84), .mv (.t 5), some (81, true)⟩,
          ⟨(some 85), .bin .geq (.t 83) (.t 84), some (81, true)⟩,
          ⟨(some 86), .pick (.t 81) (.t 85) (.c (.bool false)), none⟩,
          ⟨(some 87), .mv (.t 86), none⟩,
          ⟨(some 88), .fieldA 3 (.t 3), some (87, true)⟩,
          ⟨(some 89), .load none (.t 88), some (87, true)⟩,
          ⟨(some 90), .bin .leq (.t 89) (.c (.int .i64 262144)), some (87, true)⟩,
          ⟨(some 91), .pick (.t 87) (.t 90) (.c (.bool false)), none⟩,
          ⟨(some 92), .mv (.t 91), none⟩,
          ⟨(some 93), .mv (.t 0), some (92, true)⟩,
          ⟨(some 94), .fieldA 2 (.t 3), some (92, true)⟩,
          ⟨(some 95), .load none (.t 94), some (92, true)⟩,
          ⟨(some 96), .call .view 506 [(.t 93), (.t 95), (.c (.bool false))], some (92, true)⟩,
          ⟨(some 97), .pick (.t 92) (.t 96) (.c (.bool false)), none⟩,
          ⟨(some 98), .mv (.t 97), none⟩,
          ⟨(some 99), .mv (.t 0), some (98, true)⟩,
          ⟨(some 100), .fieldA 2 (.t 3), some (98, true)⟩,
          ⟨(some 101), .load none (.t 100), some (98, true)⟩,
          ⟨(some 102), .call .view 507 [(.t 99), (.t 101)], some (98, true)⟩,
          ⟨(some 103), .pick (.t 98) (.t 102) (.c (.bool false)), none⟩,
          ⟨(some 4), .mv (.t 103), none⟩])
        .ret)
        (.seq (.region [0, 3, 5, 104] [⟨(some 105), .bin .eql (.t 10) (.c (.int .u8 6)), none⟩,
          ⟨(some 104), .mv (.t 105), none⟩])
        (.cond (.t 104)
          (.seq (.region [4] [⟨(some 106), .fieldA 1 (.t 3), none⟩,
            ⟨(some 107), .load none (.t 106), none⟩,
            ⟨(some 108), .bin .eql (.t 107) (.c (.string .empty)), none⟩,
            ⟨(some 109), .mv (.t 108), none⟩,
            ⟨(some 110), .fieldA 3 (.t 3), some (109, true)⟩,
            ⟨(some 111), .load none (.t 110), some (109, true)⟩,
            ⟨(some 112), .bin .eql (.t 111) (.c (.int .i64 0)), some (109, true)⟩,
            ⟨(some 113), .pick (.t 109) (.t 112) (.c (.bool false)), none⟩,
            ⟨(some 114), .mv (.t 113), none⟩,
            ⟨(some 115), .fieldA 4 (.t 3), some (114, true)⟩,
            ⟨(some 116), .load none (.t 115), some (114, true)⟩,
            ⟨(some 117), .bin .geq (.t 116) (.c (.int .i64 0)), some (114, true)⟩,
            ⟨(some 118), .pick (.t 114) (.t 117) (.c (.bool false)), none⟩,
            ⟨(some 119), .mv (.t 118), none⟩,
            ⟨(some 120), .fieldA 4 (.t 3), some (119, true)⟩,
            ⟨(some 121), .load none (.t 120), some (119, true)⟩,
            ⟨(some 122), .bin .lss (.t 121) (.c (.int .i64 256)), some (119, true)⟩,
            ⟨(some 123), .pick (.t 119) (.t 122) (.c (.bool false)), none⟩,
            ⟨(some 124), .mv (.t 123), none⟩,
            ⟨(some 125), .mv (.t 0), some (124, true)⟩,
            ⟨(some 126), .fieldA 2 (.t 3), some (124, true)⟩,
            ⟨(some 127), .load none (.t 126), some (124, true)⟩,
            ⟨(some 128), .call .view 506 [(.t 125), (.t 127), (.c (.bool true))], some (124, true)⟩,
            ⟨(some 129), .pick (.t 124) (.t 128) (.c (.bool false)), none⟩,
            ⟨(some 4), .mv (.t 129), none⟩])
          .ret)
          .skip))))))))))
  (.seq (.region [4] [⟨(some 130), .fieldA 1 (.t 3), none⟩,
    ⟨(some 131), .load none (.t 130), none⟩,
    ⟨(some 132), .bin .eql (.t 131) (.c (.string .empty)), none⟩,
    ⟨(some 133), .mv (.t 132), none⟩,
    ⟨(some 134), .fieldA 3 (.t 3), some (133, true)⟩,
    ⟨(some 135), .load none (.t 134), some (133, true)⟩,
    ⟨(some 136), .bin .eql (.t 135) (.c (.int .i64 0)), some (133, true)⟩,
    ⟨(some 137), .pick (.t 133) (.t 136) (.c (.bool false)), none⟩,
    ⟨(some 138), .mv (.t 137), none⟩,
    ⟨(some 139), .fieldA 4 (.t 3), some (138, true)⟩,
    ⟨(some 140), .load none (.t 139), some (138, true)⟩,
    ⟨(some 141), .bin .eql (.t 140) (.c (.int .i64 0)), some (138, true)⟩,
    ⟨(some 142), .pick (.t 138) (.t 141) (.c (.bool false)), none⟩,
    ⟨(some 143), .mv (.t 142), none⟩,
    ⟨(some 144), .mv (.t 5), some (143, true)⟩,
    ⟨(some 145), .bin .eql (.t 144) (.c (.int .i64 1)), some (143, true)⟩,
    ⟨(some 146), .pick (.t 143) (.t 145) (.c (.bool false)), none⟩,
    ⟨(some 147), .mv (.t 146), none⟩,
    ⟨(some 148), .mv (.t 0), some (147, true)⟩,
    ⟨(some 149), .fieldA 2 (.t 3), some (147, true)⟩,
    ⟨(some 150), .load none (.t 149), some (147, true)⟩,
    ⟨(some 151), .call .view 506 [(.t 148), (.t 150), (.c (.bool false))], some (147, true)⟩,
    ⟨(some 152), .pick (.t 147) (.t 151) (.c (.bool false)), none⟩,
    ⟨(some 4), .mv (.t 152), none⟩])
  .ret))))⟩

def x339L1 : XCode :=
  (.seq (.seq (.region [0, 3, 4, 14] [⟨(some 7), .mv (.t 4), none⟩,
    ⟨(some 8), .mv (.t 0), none⟩,
    ⟨(some 9), .len (.t 8), none⟩,
    ⟨(some 10), .bin .lss (.t 7) (.t 9), none⟩,
    ⟨(some 11), .mv (.t 10), none⟩,
    ⟨(some 12), .mv (.t 3), some (11, true)⟩,
    ⟨(some 13), .bin .leq (.t 12) (.c (.int .i64 1048576)), some (11, true)⟩,
    ⟨(some 14), .pick (.t 11) (.t 13) (.c (.bool false)), none⟩])
  (.cond (.t 14)
    .skip
    (.exit 0)))
  (.seq (.block 1 (.region [0, 3, 4] [⟨(some 17), .mv (.t 3), none⟩,
    ⟨(some 18), .mv (.t 0), none⟩,
    ⟨(some 19), .mv (.t 4), none⟩,
    ⟨(some 20), .idxA 5 (.t 18) (.t 19), none⟩,
    ⟨(some 21), .load (some 5) (.t 20), none⟩,
    ⟨(some 22), .call .view 338 [(.t 21)], none⟩,
    ⟨(some 23), .bin .add (.t 17) (.t 22), none⟩,
    ⟨(some 3), .mv (.t 23), none⟩]))
  (.region [0, 3, 4] [⟨(some 15), .mv (.t 4), none⟩,
    ⟨(some 16), .bin .add (.t 15) (.c (.int .i64 1)), none⟩,
    ⟨(some 4), .mv (.t 16), none⟩])))
/-- gearbox/gearboxlaw01.ObjsSize · 1 parameters, 0 captured -/
def x339 : XFun := ⟨[.tmp 2],
  (.seq (.region [0] [⟨(some 2), .mv (.c (.int .i64 0)), none⟩])
  (.seq (.region [0, 3] [⟨(some 5), .mv (.t 0), none⟩,
    ⟨(some 6), .len (.t 5), none⟩,
    ⟨(some 3), .mv (.t 6), none⟩])
  (.seq (.seq (.region [0, 3, 4] [⟨(some 4), .mv (.c (.int .i64 0)), none⟩])
  (.block 0 (.loop [0, 3, 4] x339L1)))
  (.seq (.region [2] [⟨(some 24), .mv (.t 3), none⟩,
    ⟨(some 2), .mv (.t 24), none⟩])
  .ret))))⟩

/-- gearbox/gearboxlaw01.TwinObj · 1 parameters, 0 captured -/
def x372 : XFun := ⟨[.cell 2 (some 5)],
  (.seq (.region [1, 2] [⟨(some 1), .box 5 (.t 0), none⟩,
    ⟨(some 2), .alloc [(.int .u8 0), (.string .empty), (.slice none 0 0), (.int .i64 0), (.int .i64 0)], none⟩])
  (.seq (.region [2] [⟨(some 3), .fieldA 0 (.t 1), none⟩,
    ⟨(some 4), .load none (.t 3), none⟩,
    ⟨(some 5), .fieldA 1 (.t 1), none⟩,
    ⟨(some 6), .load none (.t 5), none⟩,
    ⟨(some 7), .fieldA 2 (.t 1), none⟩,
    ⟨(some 8), .load none (.t 7), none⟩,
    ⟨(some 9), .call .view 379 [(.t 8)], none⟩,
    ⟨(some 10), .fieldA 3 (.t 1), none⟩,
    ⟨(some 11), .load none (.t 10), none⟩,
    ⟨(some 12), .fieldA 4 (.t 1), none⟩,
    ⟨(some 13), .load none (.t 12), none⟩,
    ⟨(some 14), .build [(.int .u8 0), (.string .empty), (.slice none 0 0), (.int .i64 0), (.int .i64 0)] [(0, 1, (.t 4)), (1, 1, (.t 6)), (2, 1, (.t 9)), (3, 1, (.t 11)), (4, 1, (.t 13))], none⟩,
    ⟨none, .store 5 (.t 2) (.t 14), none⟩])
  .ret))⟩

def x655L1 : XCode :=
  (.seq (.region [1, 2, 3, 8, 9, 10, 11] [⟨(some 11), .bin .lss (.t 10) (.t 9), none⟩])
  (.seq (.cond (.t 11)
    .skip
    (.exit 0))
  (.seq (.block 1 (.seq (.region [1, 2, 3, 6, 8, 9, 10] [⟨(some 12), .idxA 2 (.t 8) (.t 10), none⟩,
    ⟨(some 13), .load (some 2) (.t 12), none⟩,
    ⟨(some 6), .alloc [(.int .u8 0), (.int .i64 0)], none⟩,
    ⟨none, .store 2 (.t 6) (.t 13), none⟩])
  (.seq (.region [1, 2, 3, 7, 8, 9, 10] [⟨(some 14), .load none (.t 1), none⟩,
    ⟨(some 15), .load (some 2) (.t 6), none⟩,
    ⟨(some 16), .call .share 651 [(.t 14), (.t 15)], none⟩,
    ⟨(some 7), .mv (.t 16), none⟩])
  (.seq (.region [1, 2, 3, 7, 8, 9, 10, 24] [⟨(some 17), .mv (.t 7), none⟩,
    ⟨(some 18), .eqNil true 1 (.t 17), none⟩,
    ⟨(some 19), .mv (.t 18), none⟩,
    ⟨(some 20), .load none (.t 2), some (19, true)⟩,
    ⟨(some 21), .mv (.t 7), some (19, true)⟩,
    ⟨(some 22), .lookup 3 [(.bool false)] false (.t 20) (.t 21) false, some (19, true)⟩,
    ⟨(some 23), .un .not (.t 22), some (19, true)⟩,
    ⟨(some 24), .pick (.t 19) (.t 23) (.c (.bool false)), none⟩])
  (.cond (.t 24)
    (.seq (.region [1, 2, 3, 7, 8, 9, 10] [⟨(some 25), .load none (.t 2), none⟩,
      ⟨(some 26), .mv (.t 7), none⟩,
      ⟨none, .mapSet 3 (.t 25) (.t 26) (.c (.bool true)), none⟩])
    (.region [1, 2, 3, 8, 9, 10] [⟨(some 27), .load none (.t 3), none⟩,
      ⟨(some 28), .mv (.t 7), none⟩,
      ⟨(some 29), .buildSlice 1 [(.pointer none)] 1 [(0, 1, (.t 28))], none⟩,
      ⟨(some 30), .append 1 8 (.t 27) (.t 29), none⟩,
      ⟨none, .store 1 (.t 3) (.t 30), none⟩]))
    .skip)))))
  (.region [1, 2, 3, 8, 9, 10] [⟨(some 31), .bin .add (.t 10) (.c (.int .i64 1)), none⟩,
    ⟨(some 10), .mv (.t 31), none⟩]))))
/-- gearbox/show.reach$1 · 1 parameters, 3 captured -/
def x655 : XFun := ⟨[],
  (.seq (.region [1, 2, 3, 8, 9, 10] [⟨(some 8), .mv (.t 0), none⟩,
    ⟨(some 9), .len (.t 8), none⟩,
    ⟨(some 10), .mv (.c (.int .i64 0)), none⟩])
  (.block 0 (.loop [1, 2, 3, 8, 9, 10] x655L1)))⟩

/-- gearbox/show.leads · 2 parameters, 0 captured -/
def x651 : XFun := ⟨[.tmp 4],
  (.seq (.region [0, 3] [⟨(some 3), .box 2 (.t 1), none⟩,
    ⟨(some 4), .mv (.c (.pointer none)), none⟩])
  (.seq (.seq (.region [0, 3, 36] [⟨(some 5), .fieldA 0 (.t 3), none⟩,
    ⟨(some 6), .load none (.t 5), none⟩,
    ⟨(some 7), .bin .lss (.t 6) (.c (.int .u8 3)), none⟩,
    ⟨(some 8), .mv (.t 7), none⟩,
    ⟨(some 9), .fieldA 0 (.t 3), some (8, false)⟩,
    ⟨(some 10), .load none (.t 9), some (8, false)⟩,
    ⟨(some 11), .bin .gtr (.t 10) (.c (.int .u8 7)), some (8, false)⟩,
    ⟨(some 12), .pick (.t 8) (.c (.bool true)) (.t 11), none⟩,
    ⟨(some 13), .mv (.t 12), none⟩,
    ⟨(some 14), .fieldA 1 (.t 3), some (13, false)⟩,
    ⟨(some 15), .load none (.t 14), some (13, false)⟩,
    ⟨(some 16), .bin .lss (.t 15) (.c (.int .i64 1)), some (13, false)⟩,
    ⟨(some 17), .pick (.t 13) (.c (.bool true)) (.t 16), none⟩,
    ⟨(some 18), .mv (.t 17), none⟩,
    ⟨(some 19), .fieldA 1 (.t 3), some (18, false)⟩,
    ⟨(some 20), .load none (.t 19), some (18, false)⟩,
    ⟨(some 21), .mv (.t 0), some (18, false)⟩,
    ⟨(some 22), .len (.t 21), some (18, false)⟩,
    ⟨(some 23), .bin .gtr (.t 20) (.t 22), some (18, false)⟩,
    ⟨(some 24), .pick (.t 18) (.c (.bool true)) (.t 23), none⟩,
    ⟨(some 25), .mv (.t 24), none⟩,
    ⟨(some 26), .mv (.t 0), some (25, false)⟩,
    ⟨(some 27), .fieldA 1 (.t 3), some (25, false)⟩,
    ⟨(some 28), .load none (.t 27), some (25, false)⟩,
    ⟨(some 29), .bin .sub (.t 28) (.c (.int .i64 1)), some (25, false)⟩,
    ⟨(some 30), .idxA 5 (.t 26) (.t 29), some (25, false)⟩,
    ⟨(some 31), .fieldA 0 (.t 30), some (25, false)⟩,
    ⟨(some 32), .load none (.t 31), some (25, false)⟩,
    ⟨(some 33), .fieldA 0 (.t 3), some (25, false)⟩,
    ⟨(some 34), .load none (.t 33), some (25, false)⟩,
    ⟨(some 35), .bin .neq (.t 32) (.t 34), some (25, false)⟩,
    ⟨(some 36), .pick (.t 25) (.c (.bool true)) (.t 35), none⟩])
  (.cond (.t 36)
    (.seq (.region [4] [⟨(some 4), .mv (.c (.pointer none)), none⟩])
    .ret)
    .skip))
  (.seq (.region [4] [⟨(some 37), .mv (.t 0), none⟩,
    ⟨(some 38), .fieldA 1 (.t 3), none⟩,
    ⟨(some 39), .load none (.t 38), none⟩,
    ⟨(some 40), .bin .sub (.t 39) (.c (.int .i64 1)), none⟩,
    ⟨(some 41), .idxA 5 (.t 37) (.t 40), none⟩,
    ⟨(some 4), .mv (.t 41), none⟩])
  .ret)))⟩

/-- gearbox/gearboxref04.Leads · 2 parameters, 0 captured -/
def x502 : XFun := ⟨[.tmp 4],
  (.seq (.region [0, 3] [⟨(some 3), .box 2 (.t 1), none⟩,
    ⟨(some 4), .mv (.c (.int .i64 0)), none⟩])
  (.seq (.seq (.region [3, 36] [⟨(some 5), .fieldA 0 (.t 3), none⟩,
    ⟨(some 6), .load none (.t 5), none⟩,
    ⟨(some 7), .bin .lss (.t 6) (.c (.int .u8 3)), none⟩,
    ⟨(some 8), .mv (.t 7), none⟩,
    ⟨(some 9), .fieldA 0 (.t 3), some (8, false)⟩,
    ⟨(some 10), .load none (.t 9), some (8, false)⟩,
    ⟨(some 11), .bin .gtr (.t 10) (.c (.int .u8 7)), some (8, false)⟩,
    ⟨(some 12), .pick (.t 8) (.c (.bool true)) (.t 11), none⟩,
    ⟨(some 13), .mv (.t 12), none⟩,
    ⟨(some 14), .fieldA 1 (.t 3), some (13, false)⟩,
    ⟨(some 15), .load none (.t 14), some (13, false)⟩,
    ⟨(some 16), .bin .lss (.t 15) (.c (.int .i64 1)), some (13, false)⟩,
    ⟨(some 17), .pick (.t 13) (.c (.bool true)) (.t 16), none⟩,
    ⟨(some 18), .mv (.t 17), none⟩,
    ⟨(some 19), .fieldA 1 (.t 3), some (18, false)⟩,
    ⟨(some 20), .load none (.t 19), some (18, false)⟩,
    ⟨(some 21), .mv (.t 0), some (18, false)⟩,
    ⟨(some 22), .len (.t 21), some (18, false)⟩,
    ⟨(some 23), .bin .gtr (.t 20) (.t 22), some (18, false)⟩,
    ⟨(some 24), .pick (.t 18) (.c (.bool true)) (.t 23), none⟩,
    ⟨(some 25), .mv (.t 24), none⟩,
    ⟨(some 26), .mv (.t 0), some (25, false)⟩,
    ⟨(some 27), .fieldA 1 (.t 3), some (25, false)⟩,
    ⟨(some 28), .load none (.t 27), some (25, false)⟩,
    ⟨(some 29), .bin .sub (.t 28) (.c (.int .i64 1)), some (25, false)⟩,
    ⟨(some 30), .idxA 5 (.t 26) (.t 29), some (25, false)⟩,
    ⟨(some 31), .fieldA 0 (.t 30), some (25, false)⟩,
    ⟨(some 32), .load none (.t 31), some (25, false)⟩,
    ⟨(some 33), .fieldA 0 (.t 3), some (25, false)⟩,
    ⟨(some 34), .load none (.t 33), some (25, false)⟩,
    ⟨(some 35), .bin .neq (.t 32) (.t 34), some (25, false)⟩,
    ⟨(some 36), .pick (.t 25) (.c (.bool true)) (.t 35), none⟩])
  (.cond (.t 36)
    (.seq (.region [4] [⟨(some 4), .mv (.c (.int .i64 (-1))), none⟩])
    .ret)
    .skip))
  (.seq (.region [4] [⟨(some 37), .fieldA 1 (.t 3), none⟩,
    ⟨(some 38), .load none (.t 37), none⟩,
    ⟨(some 39), .bin .sub (.t 38) (.c (.int .i64 1)), none⟩,
    ⟨(some 4), .mv (.t 39), none⟩])
  .ret)))⟩

/-- gearbox/gearboxlaw01.LeftObj · 2 parameters, 0 captured -/
def x329 : XFun := ⟨[.tmp 4],
  (.seq (.region [2, 3] [⟨(some 2), .box 5 (.t 0), none⟩,
    ⟨(some 3), .box 5 (.t 1), none⟩,
    ⟨(some 4), .mv (.c (.bool false)), none⟩])
  (.seq (.region [4] [⟨(some 5), .fieldA 0 (.t 2), none⟩,
    ⟨(some 6), .load none (.t 5), none⟩,
    ⟨(some 7), .fieldA 0 (.t 3), none⟩,
    ⟨(some 8), .load none (.t 7), none⟩,
    ⟨(some 9), .bin .eql (.t 6) (.t 8), none⟩,
    ⟨(some 10), .mv (.t 9), none⟩,
    ⟨(some 11), .fieldA 1 (.t 2), some (10, true)⟩,
    ⟨(some 12), .load none (.t 11), some (10, true)⟩,
    ⟨(some 13), .fieldA 1 (.t 3), some (10, true)⟩,
    ⟨(some 14), .load none (.t 13), some (10, true)⟩,
    ⟨(some 15), .bin .eql (.t 12) (.t 14), some (10, true)⟩,
    ⟨(some 16), .pick (.t 10) (.t 15) (.c (.bool false)), none⟩,
    ⟨(some 17), .mv (.t 16), none⟩,
    ⟨(some 18), .fieldA 2 (.t 2), some (17, true)⟩,
    ⟨(some 19), .load none (.t 18), some (17, true)⟩,
    ⟨(some 20), .fieldA 2 (.t 3), some (17, true)⟩,
    ⟨(some 21), .load none (.t 20), some (17, true)⟩,
    ⟨(some 22), .call .view 336 [(.t 19), (.t 21)], some (17, true)⟩,
    ⟨(some 23), .pick (.t 17) (.t 22) (.c (.bool false)), none⟩,
    ⟨(some 24), .mv (.t 23), none⟩,
    ⟨(some 25), .fieldA 3 (.t 2), some (24, true)⟩,
    ⟨(some 26), .load none (.t 25), some (24, true)⟩,
    ⟨(some 27), .fieldA 3 (.t 3), some (24, true)⟩,
    ⟨(some 28), .load none (.t 27), some (24, true)⟩,
    ⟨(some 29), .bin .eql (.t 26) (.t 28), some (24, true)⟩,
    ⟨(some 30), .pick (.t 24) (.t 29) (.c (.bool false)), none⟩,
    ⟨(some 31), .mv (.t 30), none⟩,
    ⟨(some 32), .fieldA 4 (.t 2), some (31, true)⟩,
    ⟨(some 33), .load none (.t 32), some (31, true)⟩,
    ⟨(some 34), .fieldA 4 (.t 3), some (31, true)⟩,
    ⟨(some 35), .load none (.t 34), some (31, true)⟩,
    ⟨(some 36), .bin .eql (.t 33) (.t 35), some (31, true)⟩,
    ⟨(some 37), .pick (.t 31) (.t 36) (.c (.bool false)), none⟩,
    ⟨(some 4), .mv (.t 37), none⟩])
  .ret))⟩

def x755L1 : XCode :=
  (.seq (.region [0, 1, 7, 8, 9] [⟨(some 9), .bin .lss (.t 8) (.t 7), none⟩])
  (.seq (.cond (.t 9)
    .skip
    (.exit 0))
  (.seq (.block 1 (.seq (.region [0, 1, 5, 7, 8] [⟨(some 10), .mv (.t 8), none⟩,
    ⟨(some 5), .mv (.t 10), none⟩])
  (.seq (.region [0, 1, 5, 7, 8, 16] [⟨(some 11), .mv (.t 1), none⟩,
    ⟨(some 12), .mv (.t 0), none⟩,
    ⟨(some 13), .mv (.t 5), none⟩,
    ⟨(some 14), .idxA 1 (.t 12) (.t 13), none⟩,
    ⟨(some 15), .load none (.t 14), none⟩,
    ⟨(some 16), .callV (.t 11) [(.t 15)], none⟩])
  (.cond (.t 16)
    (.seq (.region [4] [⟨(some 17), .mv (.t 5), none⟩,
      ⟨(some 4), .mv (.t 17), none⟩])
    .ret)
    .skip))))
  (.region [0, 1, 7, 8] [⟨(some 18), .bin .add (.t 8) (.c (.int .i64 1)), none⟩,
    ⟨(some 8), .mv (.t 18), none⟩]))))
/-- slices.IndexFunc[[]*gearbox/api.Obj,*gearbox/api.Obj] · 2 parameters, 0 captured -/
def x755 : XFun := ⟨[.tmp 4],
  (.seq (.region [0, 1] [⟨(some 4), .mv (.c (.int .i64 0)), none⟩])
  (.seq (.seq (.region [0, 1, 7, 8] [⟨(some 6), .mv (.t 0), none⟩,
    ⟨(some 7), .len (.t 6), none⟩,
    ⟨(some 8), .mv (.c (.int .i64 0)), none⟩])
  (.block 0 (.loop [0, 1, 7, 8] x755L1)))
  (.seq (.region [4] [⟨(some 4), .mv (.c (.int .i64 (-1))), none⟩])
  .ret)))⟩

/-- slices.ContainsFunc[[]gearbox/api.Val,gearbox/api.Val] · 2 parameters, 0 captured -/
def x749 : XFun := ⟨[.tmp 4],
  (.seq (.region [0, 1] [⟨(some 4), .mv (.c (.bool false)), none⟩])
  (.seq (.region [4] [⟨(some 5), .mv (.t 0), none⟩,
    ⟨(some 6), .mv (.t 1), none⟩,
    ⟨(some 7), .call .share 759 [(.t 5), (.t 6)], none⟩,
    ⟨(some 8), .bin .geq (.t 7) (.c (.int .i64 0)), none⟩,
    ⟨(some 4), .mv (.t 8), none⟩])
  .ret))⟩

/-- gearbox/show.may$1 · 1 parameters, 2 captured -/
def x653 : XFun := ⟨[.tmp 4],
  (.seq (.region [1, 2, 3] [⟨(some 3), .box 2 (.t 0), none⟩,
    ⟨(some 4), .mv (.c (.bool false)), none⟩])
  (.seq (.region [4] [⟨(some 5), .load none (.t 1), none⟩,
    ⟨(some 6), .load (some 2) (.t 3), none⟩,
    ⟨(some 7), .call .peek 656 [(.t 5), (.t 6)], none⟩,
    ⟨(some 8), .un .not (.t 7), none⟩,
    ⟨(some 9), .mv (.t 8), none⟩,
    ⟨(some 10), .fieldA 0 (.t 3), some (9, false)⟩,
    ⟨(some 11), .load none (.t 10), some (9, false)⟩,
    ⟨(some 12), .bin .eql (.t 11) (.c (.int .u8 7)), some (9, false)⟩,
    ⟨(some 13), .load none (.t 2), some (9, false)⟩,
    ⟨(some 14), .nilCheck (.t 13), some (9, false)⟩,
    ⟨(some 15), .fieldA 0 (.t 14), some (9, false)⟩,
    ⟨(some 16), .load none (.t 15), some (9, false)⟩,
    ⟨(some 17), .bin .eql (.t 16) (.c (.int .u8 6)), some (9, false)⟩,
    ⟨(some 18), .binB .neq (.t 12) (.t 17), some (9, false)⟩,
    ⟨(some 19), .pick (.t 9) (.c (.bool true)) (.t 18), none⟩,
    ⟨(some 4), .mv (.t 19), none⟩])
  .ret))⟩

def x650L1 : XCode :=
  (.seq (.seq (.region [0, 1, 5, 6, 13] [⟨(some 10), .mv (.t 6), none⟩,
    ⟨(some 11), .mv (.t 1), none⟩,
    ⟨(some 12), .len (.t 11), none⟩,
    ⟨(some 13), .bin .lss (.t 10) (.t 12), none⟩])
  (.cond (.t 13)
    .skip
    (.exit 0)))
  (.seq (.block 1 (.seq (.region [0, 1, 5, 6, 7] [⟨(some 16), .mv (.t 1), none⟩,
    ⟨(some 17), .mv (.t 6), none⟩,
    ⟨(some 18), .idxA 2 (.t 16) (.t 17), none⟩,
    ⟨(some 19), .load (some 2) (.t 18), none⟩,
    ⟨(some 20), .build [(.int .u8 0), (.int .i64 0), (.string .empty)] [(0, 2, (.t 19))], none⟩,
    ⟨(some 7), .alloc [(.int .u8 0), (.int .i64 0), (.string .empty)], none⟩,
    ⟨none, .store 3 (.t 7) (.t 20), none⟩])
  (.seq (.seq (.region [0, 1, 5, 6, 7, 8] [⟨(some 21), .mv (.t 0), none⟩,
    ⟨(some 22), .mv (.t 1), none⟩,
    ⟨(some 23), .mv (.t 6), none⟩,
    ⟨(some 24), .idxA 2 (.t 22) (.t 23), none⟩,
    ⟨(some 25), .load (some 2) (.t 24), none⟩,
    ⟨(some 26), .call .share 651 [(.t 21), (.t 25)], none⟩,
    ⟨(some 8), .mv (.t 26), none⟩])
  (.seq (.region [0, 1, 5, 6, 7, 8, 36] [⟨(some 27), .mv (.t 1), none⟩,
    ⟨(some 28), .mv (.t 6), none⟩,
    ⟨(some 29), .idxA 2 (.t 27) (.t 28), none⟩,
    ⟨(some 30), .fieldA 0 (.t 29), none⟩,
    ⟨(some 31), .load none (.t 30), none⟩,
    ⟨(some 32), .bin .eql (.t 31) (.c (.int .u8 3)), none⟩,
    ⟨(some 33), .mv (.t 32), none⟩,
    ⟨(some 34), .mv (.t 8), some (33, true)⟩,
    ⟨(some 35), .eqNil true 1 (.t 34), some (33, true)⟩,
    ⟨(some 36), .pick (.t 33) (.t 35) (.c (.bool false)), none⟩])
  (.cond (.t 36)
    (.region [0, 1, 5, 6, 7] [⟨(some 37), .build [(.int .u8 0), (.int .i64 0)] [(0, 1, (.c (.int .u8 3)))], none⟩,
      ⟨(some 38), .mv (.t 8), none⟩,
      ⟨(some 39), .nilCheck (.t 38), none⟩,
      ⟨(some 40), .fieldA 1 (.t 39), none⟩,
      ⟨(some 41), .load none (.t 40), none⟩,
      ⟨(some 42), .build [(.int .u8 0), (.int .i64 0), (.string .empty)] [(0, 2, (.t 37)), (2, 1, (.t 41))], none⟩,
      ⟨none, .store 3 (.t 7) (.t 42), none⟩])
    .skip)))
  (.region [0, 1, 5, 6] [⟨(some 43), .mv (.t 5), none⟩,
    ⟨(some 44), .load (some 3) (.t 7), none⟩,
    ⟨none, .mapSet 57 (.t 43) (.t 44) (.c (.bool true)), none⟩]))))
  (.region [0, 1, 5, 6] [⟨(some 14), .mv (.t 6), none⟩,
    ⟨(some 15), .bin .add (.t 14) (.c (.int .i64 2)), none⟩,
    ⟨(some 6), .mv (.t 15), none⟩])))
/-- gearbox/show.keys · 2 parameters, 0 captured -/
def x650 : XFun := ⟨[.tmp 4],
  (.seq (.region [0, 1] [⟨(some 4), .mv (.c (.bool false)), none⟩])
  (.seq (.region [0, 1, 5] [⟨(some 9), .makeMap none, none⟩,
    ⟨(some 5), .mv (.t 9), none⟩])
  (.seq (.seq (.region [0, 1, 5, 6] [⟨(some 6), .mv (.c (.int .i64 0)), none⟩])
  (.block 0 (.loop [0, 1, 5, 6] x650L1)))
  (.seq (.region [4] [⟨(some 45), .mv (.t 5), none⟩,
    ⟨(some 46), .lenM (.t 45), none⟩,
    ⟨(some 47), .mv (.t 1), none⟩,
    ⟨(some 48), .len (.t 47), none⟩,
    ⟨(some 49), .bin .quo (.t 48) (.c (.int .i64 2)), none⟩,
    ⟨(some 50), .bin .eql (.t 46) (.t 49), none⟩,
    ⟨(some 4), .mv (.t 50), none⟩])
  .ret))))⟩

def x506L1 : XCode :=
  (.seq (.seq (.region [0, 1, 2, 7, 11] [⟨(some 8), .mv (.t 7), none⟩,
    ⟨(some 9), .mv (.t 1), none⟩,
    ⟨(some 10), .len (.t 9), none⟩,
    ⟨(some 11), .bin .lss (.t 8) (.t 10), none⟩])
  (.cond (.t 11)
    .skip
    (.exit 0)))
  (.seq (.block 1 (.seq (.region [0, 1, 2, 7, 30] [⟨(some 14), .mv (.t 0), none⟩,
    ⟨(some 15), .mv (.t 1), none⟩,
    ⟨(some 16), .mv (.t 7), none⟩,
    ⟨(some 17), .idxA 2 (.t 15) (.t 16), none⟩,
    ⟨(some 18), .load (some 2) (.t 17), none⟩,
    ⟨(some 19), .call .view 510 [(.t 14), (.t 18)], none⟩,
    ⟨(some 20), .un .not (.t 19), none⟩,
    ⟨(some 21), .mv (.t 20), none⟩,
    ⟨(some 22), .mv (.t 1), some (21, false)⟩,
    ⟨(some 23), .mv (.t 7), some (21, false)⟩,
    ⟨(some 24), .idxA 2 (.t 22) (.t 23), some (21, false)⟩,
    ⟨(some 25), .fieldA 0 (.t 24), some (21, false)⟩,
    ⟨(some 26), .load none (.t 25), some (21, false)⟩,
    ⟨(some 27), .bin .eql (.t 26) (.c (.int .u8 7)), some (21, false)⟩,
    ⟨(some 28), .mv (.t 2), some (21, false)⟩,
    ⟨(some 29), .binB .neq (.t 27) (.t 28), some (21, false)⟩,
    ⟨(some 30), .pick (.t 21) (.c (.bool true)) (.t 29), none⟩])
  (.cond (.t 30)
    (.seq (.region [6] [⟨(some 6), .mv (.c (.bool false)), none⟩])
    .ret)
    .skip)))
  (.region [0, 1, 2, 7] [⟨(some 12), .mv (.t 7), none⟩,
    ⟨(some 13), .bin .add (.t 12) (.c (.int .i64 1)), none⟩,
    ⟨(some 7), .mv (.t 13), none⟩])))
/-- gearbox/gearboxref04.held · 3 parameters, 0 captured -/
def x506 : XFun := ⟨[.tmp 6],
  (.seq (.region [0, 1, 2] [⟨(some 6), .mv (.c (.bool false)), none⟩])
  (.seq (.seq (.region [0, 1, 2, 7] [⟨(some 7), .mv (.c (.int .i64 0)), none⟩])
  (.block 0 (.loop [0, 1, 2, 7] x506L1)))
  (.seq (.region [6] [⟨(some 6), .mv (.c (.bool true)), none⟩])
  .ret)))⟩

def x507L1 : XCode :=
  (.seq (.seq (.region [0, 1, 5, 6, 15] [⟨(some 13), .mv (.t 6), none⟩,
    ⟨(some 14), .mv (.t 5), none⟩,
    ⟨(some 15), .bin .lss (.t 13) (.t 14), none⟩])
  (.cond (.t 15)
    .skip
    (.exit 2)))
  (.seq (.block 3 (.seq (.region [0, 1, 5, 6, 27] [⟨(some 18), .mv (.t 0), none⟩,
    ⟨(some 19), .mv (.t 1), none⟩,
    ⟨(some 20), .mv (.t 5), none⟩,
    ⟨(some 21), .idxA 2 (.t 19) (.t 20), none⟩,
    ⟨(some 22), .load (some 2) (.t 21), none⟩,
    ⟨(some 23), .mv (.t 1), none⟩,
    ⟨(some 24), .mv (.t 6), none⟩,
    ⟨(some 25), .idxA 2 (.t 23) (.t 24), none⟩,
    ⟨(some 26), .load (some 2) (.t 25), none⟩,
    ⟨(some 27), .call .view 503 [(.t 18), (.t 22), (.t 26)], none⟩])
  (.cond (.t 27)
    (.seq (.region [4] [⟨(some 4), .mv (.c (.bool false)), none⟩])
    .ret)
    .skip)))
  (.region [0, 1, 5, 6] [⟨(some 16), .mv (.t 6), none⟩,
    ⟨(some 17), .bin .add (.t 16) (.c (.int .i64 2)), none⟩,
    ⟨(some 6), .mv (.t 17), none⟩])))
def x507L2 : XCode :=
  (.seq (.seq (.region [0, 1, 5, 10] [⟨(some 7), .mv (.t 5), none⟩,
    ⟨(some 8), .mv (.t 1), none⟩,
    ⟨(some 9), .len (.t 8), none⟩,
    ⟨(some 10), .bin .lss (.t 7) (.t 9), none⟩])
  (.cond (.t 10)
    .skip
    (.exit 0)))
  (.seq (.block 1 (.seq (.region [0, 1, 5, 6] [⟨(some 6), .mv (.c (.int .i64 0)), none⟩])
  (.block 2 (.loop [0, 1, 5, 6] x507L1))))
  (.region [0, 1, 5] [⟨(some 11), .mv (.t 5), none⟩,
    ⟨(some 12), .bin .add (.t 11) (.c (.int .i64 2)), none⟩,
    ⟨(some 5), .mv (.t 12), none⟩])))
/-- gearbox/gearboxref04.keys · 2 parameters, 0 captured -/
def x507 : XFun := ⟨[.tmp 4],
  (.seq (.region [0, 1] [⟨(some 4), .mv (.c (.bool false)), none⟩])
  (.seq (.seq (.region [0, 1, 5] [⟨(some 5), .mv (.c (.int .i64 0)), none⟩])
  (.block 0 (.loop [0, 1, 5] x507L2)))
  (.seq (.region [4] [⟨(some 4), .mv (.c (.bool true)), none⟩])
  .ret)))⟩

/-- gearbox/gearboxlaw01.ObjSize · 1 parameters, 0 captured -/
def x338 : XFun := ⟨[.tmp 2],
  (.seq (.region [1] [⟨(some 1), .box 5 (.t 0), none⟩,
    ⟨(some 2), .mv (.c (.int .i64 0)), none⟩])
  (.seq (.region [1, 3] [⟨(some 4), .fieldA 1 (.t 1), none⟩,
    ⟨(some 5), .load none (.t 4), none⟩,
    ⟨(some 6), .lenS (.t 5), none⟩,
    ⟨(some 7), .bin .add (.c (.int .i64 1)) (.t 6), none⟩,
    ⟨(some 3), .mv (.t 7), none⟩])
  (.seq (.seq (.region [1, 3, 9] [⟨(some 8), .mv (.t 3), none⟩,
    ⟨(some 9), .bin .leq (.t 8) (.c (.int .i64 1048576)), none⟩])
  (.cond (.t 9)
    (.region [3] [⟨(some 10), .mv (.t 3), none⟩,
      ⟨(some 11), .fieldA 2 (.t 1), none⟩,
      ⟨(some 12), .load none (.t 11), none⟩,
      ⟨(some 13), .call .view 380 [(.t 12)], none⟩,
      ⟨(some 14), .bin .add (.t 10) (.t 13), none⟩,
      ⟨(some 3), .mv (.t 14), none⟩])
    .skip))
  (.seq (.region [2] [⟨(some 15), .mv (.t 3), none⟩,
    ⟨(some 2), .mv (.t 15), none⟩])
  .ret))))⟩

def x759L1 : XCode :=
  (.seq (.region [0, 1, 7, 8, 9] [⟨(some 9), .bin .lss (.t 8) (.t 7), none⟩])
  (.seq (.cond (.t 9)
    .skip
    (.exit 0))
  (.seq (.block 1 (.seq (.region [0, 1, 5, 7, 8] [⟨(some 10), .mv (.t 8), none⟩,
    ⟨(some 5), .mv (.t 10), none⟩])
  (.seq (.region [0, 1, 5, 7, 8, 16] [⟨(some 11), .mv (.t 1), none⟩,
    ⟨(some 12), .mv (.t 0), none⟩,
    ⟨(some 13), .mv (.t 5), none⟩,
    ⟨(some 14), .idxA 2 (.t 12) (.t 13), none⟩,
    ⟨(some 15), .load (some 2) (.t 14), none⟩,
    ⟨(some 16), .callV (.t 11) [(.t 15)], none⟩])
  (.cond (.t 16)
    (.seq (.region [4] [⟨(some 17), .mv (.t 5), none⟩,
      ⟨(some 4), .mv (.t 17), none⟩])
    .ret)
    .skip))))
  (.region [0, 1, 7, 8] [⟨(some 18), .bin .add (.t 8) (.c (.int .i64 1)), none⟩,
    ⟨(some 8), .mv (.t 18), none⟩]))))
/-- slices.IndexFunc[[]gearbox/api.Val,gearbox/api.Val] · 2 parameters, 0 captured -/
def x759 : XFun := ⟨[.tmp 4],
  (.seq (.region [0, 1] [⟨(some 4), .mv (.c (.int .i64 0)), none⟩])
  (.seq (.seq (.region [0, 1, 7, 8] [⟨(some 6), .mv (.t 0), none⟩,
    ⟨(some 7), .len (.t 6), none⟩,
    ⟨(some 8), .mv (.c (.int .i64 0)), none⟩])
  (.block 0 (.loop [0, 1, 7, 8] x759L1)))
  (.seq (.region [4] [⟨(some 4), .mv (.c (.int .i64 (-1))), none⟩])
  .ret)))⟩

/-- gearbox/gearboxref04.Same · 3 parameters, 0 captured -/
def x503 : XFun := ⟨[.tmp 6],
  (.seq (.region [0, 4, 5] [⟨(some 4), .box 2 (.t 1), none⟩,
    ⟨(some 5), .box 2 (.t 2), none⟩,
    ⟨(some 6), .mv (.c (.bool false)), none⟩])
  (.seq (.seq (.region [0, 4, 5, 13] [⟨(some 9), .fieldA 0 (.t 4), none⟩,
    ⟨(some 10), .load none (.t 9), none⟩,
    ⟨(some 11), .fieldA 0 (.t 5), none⟩,
    ⟨(some 12), .load none (.t 11), none⟩,
    ⟨(some 13), .bin .neq (.t 10) (.t 12), none⟩])
  (.cond (.t 13)
    (.seq (.region [6] [⟨(some 6), .mv (.c (.bool false)), none⟩])
    .ret)
    .skip))
  (.seq (.seq (.region [0, 4, 5, 23] [⟨(some 14), .fieldA 0 (.t 4), none⟩,
    ⟨(some 15), .load none (.t 14), none⟩,
    ⟨(some 16), .bin .eql (.t 15) (.c (.int .u8 0)), none⟩,
    ⟨(some 17), .mv (.t 16), none⟩,
    ⟨(some 18), .fieldA 1 (.t 4), some (17, false)⟩,
    ⟨(some 19), .load none (.t 18), some (17, false)⟩,
    ⟨(some 20), .fieldA 1 (.t 5), some (17, false)⟩,
    ⟨(some 21), .load none (.t 20), some (17, false)⟩,
    ⟨(some 22), .bin .eql (.t 19) (.t 21), some (17, false)⟩,
    ⟨(some 23), .pick (.t 17) (.c (.bool true)) (.t 22), none⟩])
  (.cond (.t 23)
    (.seq (.region [6] [⟨(some 6), .mv (.c (.bool true)), none⟩])
    .ret)
    .skip))
  (.seq (.region [0, 4, 7, 8] [⟨(some 24), .mv (.t 0), none⟩,
    ⟨(some 25), .load (some 2) (.t 4), none⟩,
    ⟨(some 26), .call .view 502 [(.t 24), (.t 25)], none⟩,
    ⟨(some 27), .mv (.t 0), none⟩,
    ⟨(some 28), .load (some 2) (.t 5), none⟩,
    ⟨(some 29), .call .view 502 [(.t 27), (.t 28)], none⟩,
    ⟨(some 7), .mv (.t 26), none⟩,
    ⟨(some 8), .mv (.t 29), none⟩])
  (.seq (.region [6] [⟨(some 30), .fieldA 0 (.t 4), none⟩,
    ⟨(some 31), .load none (.t 30), none⟩,
    ⟨(some 32), .bin .eql (.t 31) (.c (.int .u8 3)), none⟩,
    ⟨(some 33), .mv (.t 32), none⟩,
    ⟨(some 34), .mv (.t 7), some (33, true)⟩,
    ⟨(some 35), .bin .geq (.t 34) (.c (.int .i64 0)), some (33, true)⟩,
    ⟨(some 36), .pick (.t 33) (.t 35) (.c (.bool false)), none⟩,
    ⟨(some 37), .mv (.t 36), none⟩,
    ⟨(some 38), .mv (.t 8), some (37, true)⟩,
    ⟨(some 39), .bin .geq (.t 38) (.c (.int .i64 0)), some (37, true)⟩,
    ⟨(some 40), .pick (.t 37) (.t 39) (.c (.bool false)), none⟩,
    ⟨(some 41), .mv (.t 40), none⟩,
    ⟨(some 42), .mv (.t 0), some (41, true)⟩,
    ⟨(some 43), .mv (.t 7), some (41, true)⟩,
    ⟨(some 44), .idxA 5 (.t 42) (.t 43), some (41, true)⟩,
    ⟨(some 45), .fieldA 1 (.t 44), some (41, true)⟩,
    ⟨(some 46), .load none (.t 45), some (41, true)⟩,
    ⟨(some 47), .mv (.t 0), some (41, true)⟩,
    ⟨(some 48), .mv (.t 8), some (41, true)⟩,
    ⟨(some 49), .idxA 5 (.t 47) (.t 48), some (41, true)⟩,
    ⟨(some 50), .fieldA 1 (.t 49), some (41, true)⟩,
    ⟨(some 51), .load none (.t 50), some (41, true)⟩,
    ⟨(some 52), .bin .eql (.t 46) (.t 51), some (41, true)⟩,
    ⟨(some 53), .pick (.t 41) (.t 52) (.c (.bool false)), none⟩,
    ⟨(some 6), .mv (.t 53), none⟩])
  .ret)))))⟩

/-- gearbox/gearboxlaw01.ValsSize · 1 parameters, 0 captured -/
def x380 : XFun := ⟨[.tmp 2],
  (.seq (.region [0] [⟨(some 2), .mv (.c (.int .i64 0)), none⟩])
  (.seq (.region [2] [⟨(some 3), .mv (.t 0), none⟩,
    ⟨(some 4), .len (.t 3), none⟩,
    ⟨(some 2), .mv (.t 4), none⟩])
  .ret))⟩


end Go.EX
