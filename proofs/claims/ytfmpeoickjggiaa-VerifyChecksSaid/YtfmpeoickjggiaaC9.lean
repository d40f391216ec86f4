/-
  EX: the functions as the interpreter reads them. Written by a program (Gen.lean.txt, mkcode.py).
-/
import Derived.Test.YtfmpeoickjggiaaK1
set_option linter.unusedVariables false
set_option linter.unusedSimpArgs false
namespace Go.EX

/-- gearbox/gearboxlaw09.VerifyChecks · 1 parameters, 0 captured -/
def x462 : XFun := ⟨[.tmp 2],
  (.seq (.region [0] [⟨(some 2), .mv (.c (.bool false)), none⟩])
  (.seq (.seq (.region [0, 11] [⟨(some 10), .mv (.t 0), none⟩,
    ⟨(some 11), .call .view 468 [(.t 10)], none⟩])
  (.cond (.t 11)
    (.seq (.region [2] [⟨(some 2), .mv (.c (.bool true)), none⟩])
    .ret)
    .skip))
  (.seq (.region [0, 3] [⟨(some 12), .mv (.t 0), none⟩,
    ⟨(some 13), .call .view 374 [(.t 12)], none⟩,
    ⟨(some 3), .mv (.t 13), none⟩])
  (.seq (.region [0, 3, 4, 5, 6] [⟨(some 15), .mv (.t 3), none⟩,
    ⟨(some 16), .call .view 658 [(.t 15)], none⟩,
    ⟨(some 14), .mv (.t 16), none⟩,
    ⟨(some 17), .extract (.t 14) 0, none⟩,
    ⟨(some 18), .extract (.t 14) 1, none⟩,
    ⟨(some 19), .extract (.t 14) 2, none⟩,
    ⟨(some 4), .mv (.t 17), none⟩,
    ⟨(some 5), .mv (.t 18), none⟩,
    ⟨(some 6), .mv (.t 19), none⟩])
  (.seq (.region [0, 3, 4, 5, 6, 7, 8, 9] [⟨(some 21), .mv (.t 0), none⟩,
    ⟨(some 22), .call .view 533 [(.t 21)], none⟩,
    ⟨(some 20), .mv (.t 22), none⟩,
    ⟨(some 23), .extract (.t 20) 0, none⟩,
    ⟨(some 24), .extract (.t 20) 1, none⟩,
    ⟨(some 25), .extract (.t 20) 2, none⟩,
    ⟨(some 7), .mv (.t 23), none⟩,
    ⟨(some 8), .mv (.t 24), none⟩,
    ⟨(some 9), .mv (.t 25), none⟩])
  (.seq (.region [2] [⟨(some 26), .mv (.t 4), none⟩,
    ⟨(some 27), .mv (.t 7), none⟩,
    ⟨(some 28), .bin .eql (.t 26) (.t 27), none⟩,
    ⟨(some 29), .mv (.t 28), none⟩,
    ⟨(some 30), .mv (.t 5), some (29, true)⟩,
    ⟨(some 31), .mv (.t 8), some (29, true)⟩,
    ⟨(some 32), .bin .eql (.t 30) (.t 31), some (29, true)⟩,
    ⟨(some 33), .pick (.t 29) (.t 32) (.c (.bool false)), none⟩,
    ⟨(some 34), .mv (.t 33), none⟩,
    ⟨(some 35), .mv (.t 6), some (34, true)⟩,
    ⟨(some 36), .mv (.t 9), some (34, true)⟩,
    ⟨(some 37), .bin .eql (.t 35) (.t 36), some (34, true)⟩,
    ⟨(some 38), .pick (.t 34) (.t 37) (.c (.bool false)), none⟩,
    ⟨(some 39), .mv (.t 38), none⟩,
    ⟨(some 40), .mv (.t 3), some (39, true)⟩,
    ⟨(some 41), .mv (.t 0), some (39, true)⟩,
    ⟨(some 42), .call .view 331 [(.t 40), (.t 41)], some (39, true)⟩,
    ⟨(some 43), .pick (.t 39) (.t 42) (.c (.bool false)), none⟩,
    ⟨(some 2), .mv (.t 43), none⟩])
  .ret))))))⟩

def x465L1 : XCode :=
  (.seq (.seq (.region [2, 7, 9, 10, 11, 12, 15, 16, 102] [⟨(some 94), .mv (.t 16), none⟩,
    ⟨(some 95), .fieldA 7 (.t 9), none⟩,
    ⟨(some 96), .load none (.t 95), none⟩,
    ⟨(some 97), .len (.t 96), none⟩,
    ⟨(some 98), .bin .lss (.t 94) (.t 97), none⟩,
    ⟨(some 99), .mv (.t 98), none⟩,
    ⟨(some 100), .mv (.t 15), some (99, true)⟩,
    ⟨(some 101), .bin .lss (.t 100) (.c (.int .i64 0)), some (99, true)⟩,
    ⟨(some 102), .pick (.t 99) (.t 101) (.c (.bool false)), none⟩])
  (.cond (.t 102)
    .skip
    (.exit 2)))
  (.seq (.block 3 (.seq (.region [2, 7, 9, 10, 11, 12, 15, 16, 17] [⟨(some 105), .fieldA 7 (.t 9), none⟩,
    ⟨(some 106), .load none (.t 105), none⟩,
    ⟨(some 107), .mv (.t 16), none⟩,
    ⟨(some 108), .idxA 4 (.t 106) (.t 107), none⟩,
    ⟨(some 109), .load (some 4) (.t 108), none⟩,
    ⟨(some 17), .alloc [(.int .i64 0), (.int .i64 0), (.int .i64 0), (.int .i64 0)], none⟩,
    ⟨none, .store 4 (.t 17) (.t 109), none⟩])
  (.seq (.region [2, 7, 9, 10, 11, 12, 15, 16, 17, 119] [⟨(some 110), .mv (.t 10), none⟩,
    ⟨(some 111), .fieldA 0 (.t 17), none⟩,
    ⟨(some 112), .load none (.t 111), none⟩,
    ⟨(some 113), .bin .geq (.t 110) (.t 112), none⟩,
    ⟨(some 114), .mv (.t 113), none⟩,
    ⟨(some 115), .mv (.t 10), some (114, true)⟩,
    ⟨(some 116), .fieldA 1 (.t 17), some (114, true)⟩,
    ⟨(some 117), .load none (.t 116), some (114, true)⟩,
    ⟨(some 118), .bin .lss (.t 115) (.t 117), some (114, true)⟩,
    ⟨(some 119), .pick (.t 114) (.t 118) (.c (.bool false)), none⟩])
  (.cond (.t 119)
    (.seq (.region [2, 7, 9, 10, 12, 15, 16, 17] [⟨(some 120), .fieldA 2 (.t 17), none⟩,
      ⟨(some 121), .load none (.t 120), none⟩,
      ⟨(some 15), .mv (.t 121), none⟩])
    (.region [2, 7, 9, 10, 11, 12, 15, 16] [⟨(some 122), .fieldA 3 (.t 17), none⟩,
      ⟨(some 123), .load none (.t 122), none⟩,
      ⟨(some 124), .bin .add (.t 123) (.c (.int .i64 1)), none⟩,
      ⟨(some 11), .mv (.t 124), none⟩]))
    .skip))))
  (.region [2, 7, 9, 10, 11, 12, 15, 16] [⟨(some 103), .mv (.t 16), none⟩,
    ⟨(some 104), .bin .add (.t 103) (.c (.int .i64 1)), none⟩,
    ⟨(some 16), .mv (.t 104), none⟩])))
def x465L2 : XCode :=
  (.seq (.seq (.region [2, 7, 9, 10, 11, 12, 46] [⟨(some 45), .mv (.t 12), none⟩,
    ⟨(some 46), .bin .lss (.t 45) (.c (.int .i64 300)), none⟩])
  (.cond (.t 46)
    .skip
    (.exit 0)))
  (.seq (.block 1 (.seq (.seq (.region [2, 7, 9, 10, 11, 12, 73] [⟨(some 49), .mv (.t 10), none⟩,
    ⟨(some 50), .bin .lss (.t 49) (.c (.int .i64 0)), none⟩,
    ⟨(some 51), .mv (.t 50), none⟩,
    ⟨(some 52), .mv (.t 10), some (51, false)⟩,
    ⟨(some 53), .fieldA 5 (.t 9), some (51, false)⟩,
    ⟨(some 54), .load none (.t 53), some (51, false)⟩,
    ⟨(some 55), .len (.t 54), some (51, false)⟩,
    ⟨(some 56), .bin .geq (.t 52) (.t 55), some (51, false)⟩,
    ⟨(some 57), .pick (.t 51) (.c (.bool true)) (.t 56), none⟩,
    ⟨(some 58), .mv (.t 57), none⟩,
    ⟨(some 59), .mv (.t 7), some (58, false)⟩,
    ⟨(some 60), .mv (.t 10), some (58, false)⟩,
    ⟨(some 61), .idxA 1 (.t 59) (.t 60), some (58, false)⟩,
    ⟨(some 62), .load none (.t 61), some (58, false)⟩,
    ⟨(some 63), .mv (.t 11), some (58, false)⟩,
    ⟨(some 64), .bin .neq (.t 62) (.t 63), some (58, false)⟩,
    ⟨(some 65), .pick (.t 58) (.c (.bool true)) (.t 64), none⟩,
    ⟨(some 66), .mv (.t 65), none⟩,
    ⟨(some 67), .mv (.t 11), some (66, false)⟩,
    ⟨(some 68), .bin .lss (.t 67) (.c (.int .i64 0)), some (66, false)⟩,
    ⟨(some 69), .pick (.t 66) (.c (.bool true)) (.t 68), none⟩,
    ⟨(some 70), .mv (.t 69), none⟩,
    ⟨(some 71), .mv (.t 11), some (70, false)⟩,
    ⟨(some 72), .bin .gtr (.t 71) (.c (.int .i64 256)), some (70, false)⟩,
    ⟨(some 73), .pick (.t 70) (.c (.bool true)) (.t 72), none⟩])
  (.cond (.t 73)
    (.seq (.region [6] [⟨(some 6), .mv (.c (.bool false)), none⟩])
    .ret)
    .skip))
  (.seq (.region [2, 7, 9, 10, 11, 12, 13] [⟨(some 74), .fieldA 5 (.t 9), none⟩,
    ⟨(some 75), .load none (.t 74), none⟩,
    ⟨(some 76), .mv (.t 10), none⟩,
    ⟨(some 77), .idxA 2 (.t 75) (.t 76), none⟩,
    ⟨(some 78), .load (some 2) (.t 77), none⟩,
    ⟨(some 13), .alloc [(.int .u8 0), (.int .i64 0)], none⟩,
    ⟨none, .store 2 (.t 13) (.t 78), none⟩])
  (.seq (.region [2, 7, 9, 10, 11, 12, 13, 14] [⟨(some 79), .mv (.t 2), none⟩,
    ⟨(some 80), .mv (.t 12), none⟩,
    ⟨(some 81), .mv (.t 2), none⟩,
    ⟨(some 82), .len (.t 81), none⟩,
    ⟨(some 83), .bin .rem (.t 80) (.t 82), none⟩,
    ⟨(some 84), .idxA 1 (.t 79) (.t 83), none⟩,
    ⟨(some 85), .load none (.t 84), none⟩,
    ⟨(some 14), .mv (.t 85), none⟩])
  (.seq (.seq (.region [2, 7, 9, 10, 11, 12, 13, 14, 93] [⟨(some 86), .mv (.t 14), none⟩,
    ⟨(some 87), .bin .rem (.t 86) (.c (.int .u8 8)), none⟩,
    ⟨(some 88), .bin .eql (.t 87) (.c (.int .u8 0)), none⟩,
    ⟨(some 89), .mv (.t 88), none⟩,
    ⟨(some 90), .fieldA 0 (.t 13), some (89, false)⟩,
    ⟨(some 91), .load none (.t 90), some (89, false)⟩,
    ⟨(some 92), .bin .eql (.t 91) (.c (.int .u8 29)), some (89, false)⟩,
    ⟨(some 93), .pick (.t 89) (.c (.bool true)) (.t 92), none⟩])
  (.cond (.t 93)
    (.seq (.region [2, 7, 9, 10, 11, 12, 15] [⟨(some 15), .mv (.c (.int .i64 (-1))), none⟩])
    (.seq (.seq (.region [2, 7, 9, 10, 11, 12, 15, 16] [⟨(some 16), .mv (.c (.int .i64 0)), none⟩])
    (.block 2 (.loop [2, 7, 9, 10, 11, 12, 15, 16] x465L1)))
    (.seq (.seq (.region [2, 7, 9, 11, 12, 15, 126] [⟨(some 125), .mv (.t 15), none⟩,
      ⟨(some 126), .bin .lss (.t 125) (.c (.int .i64 0)), none⟩])
    (.cond (.t 126)
      (.seq (.region [6] [⟨(some 6), .mv (.c (.bool true)), none⟩])
      .ret)
      .skip))
    (.seq (.region [2, 7, 9, 10, 11, 12] [⟨(some 127), .mv (.t 15), none⟩,
      ⟨(some 10), .mv (.t 127), none⟩])
    (.exit 1)))))
    .skip))
  (.seq (.seq (.region [2, 7, 9, 10, 11, 12, 13, 14, 129] [⟨(some 128), .fieldA 0 (.t 13), none⟩,
    ⟨(some 129), .load none (.t 128), none⟩])
  (.block 4 (.seq (.region [2, 7, 9, 10, 11, 12, 13, 14, 129, 130] [⟨(some 131), .bin .eql (.t 129) (.c (.int .u8 28)), none⟩,
    ⟨(some 130), .mv (.t 131), none⟩])
  (.cond (.t 130)
    (.seq (.region [6] [⟨(some 132), .mv (.t 11), none⟩,
      ⟨(some 133), .bin .geq (.t 132) (.c (.int .i64 1)), none⟩,
      ⟨(some 6), .mv (.t 133), none⟩])
    .ret)
    (.seq (.region [2, 7, 9, 10, 11, 12, 13, 14, 129, 134] [⟨(some 135), .bin .eql (.t 129) (.c (.int .u8 21)), none⟩,
      ⟨(some 134), .mv (.t 135), none⟩])
    (.cond (.t 134)
      (.seq (.seq (.region [2, 7, 9, 11, 12, 13, 137] [⟨(some 136), .mv (.t 11), none⟩,
        ⟨(some 137), .bin .neq (.t 136) (.c (.int .i64 0)), none⟩])
      (.cond (.t 137)
        (.seq (.region [6] [⟨(some 6), .mv (.c (.bool false)), none⟩])
        .ret)
        .skip))
      (.seq (.region [2, 7, 9, 10, 11, 12] [⟨(some 138), .fieldA 1 (.t 13), none⟩,
        ⟨(some 139), .load none (.t 138), none⟩,
        ⟨(some 10), .mv (.t 139), none⟩])
      (.exit 1)))
      (.seq (.region [2, 7, 9, 10, 11, 12, 13, 14, 129, 140] [⟨(some 141), .bin .eql (.t 129) (.c (.int .u8 19)), none⟩,
        ⟨(some 140), .mv (.t 141), none⟩])
      (.cond (.t 140)
        (.seq (.region [2, 7, 9, 10, 11, 12] [⟨(some 142), .fieldA 1 (.t 13), none⟩,
          ⟨(some 143), .load none (.t 142), none⟩,
          ⟨(some 10), .mv (.t 143), none⟩])
        (.exit 1))
        (.seq (.region [2, 7, 9, 10, 11, 12, 13, 14, 129, 144] [⟨(some 145), .bin .eql (.t 129) (.c (.int .u8 20)), none⟩,
          ⟨(some 144), .mv (.t 145), none⟩])
        (.cond (.t 144)
          (.seq (.region [2, 7, 9, 10, 11, 12, 13, 14] [⟨(some 146), .mv (.t 11), none⟩,
            ⟨(some 147), .bin .sub (.t 146) (.c (.int .i64 1)), none⟩,
            ⟨(some 11), .mv (.t 147), none⟩])
          (.seq (.region [2, 7, 9, 10, 11, 12, 13, 150] [⟨(some 148), .mv (.t 14), none⟩,
            ⟨(some 149), .bin .rem (.t 148) (.c (.int .u8 2)), none⟩,
            ⟨(some 150), .bin .eql (.t 149) (.c (.int .u8 1)), none⟩])
          (.cond (.t 150)
            (.seq (.region [2, 7, 9, 10, 11, 12] [⟨(some 151), .fieldA 1 (.t 13), none⟩,
              ⟨(some 152), .load none (.t 151), none⟩,
              ⟨(some 10), .mv (.t 152), none⟩])
            (.exit 1))
            .skip)))
          (.seq (.seq (.region [2, 7, 9, 10, 11, 12, 13, 129, 153] [⟨(some 154), .bin .eql (.t 129) (.c (.int .u8 1)), none⟩,
            ⟨(some 153), .mv (.t 154), none⟩])
          (.cond (.t 153)
            .skip
            (.seq (.region [2, 7, 9, 10, 11, 12, 13, 129, 153] [⟨(some 155), .bin .eql (.t 129) (.c (.int .u8 2)), none⟩,
              ⟨(some 153), .mv (.t 155), none⟩])
            (.cond (.t 153)
              .skip
              (.seq (.region [2, 7, 9, 10, 11, 12, 13, 129, 153] [⟨(some 156), .bin .eql (.t 129) (.c (.int .u8 3)), none⟩,
                ⟨(some 153), .mv (.t 156), none⟩])
              (.cond (.t 153)
                .skip
                (.seq (.region [2, 7, 9, 10, 11, 12, 13, 129, 153] [⟨(some 157), .bin .eql (.t 129) (.c (.int .u8 4)), none⟩,
                  ⟨(some 153), .mv (.t 157), none⟩])
                (.cond (.t 153)
                  .skip
                  (.seq (.region [2, 7, 9, 10, 11, 12, 13, 129, 153] [⟨(some 158), .bin .eql (.t 129) (.c (.int .u8 5)), none⟩,
                    ⟨(some 153), .mv (.t 158), none⟩])
                  (.cond (.t 153)
                    .skip
                    (.seq (.region [2, 7, 9, 10, 11, 12, 13, 129, 153] [⟨(some 159), .bin .eql (.t 129) (.c (.int .u8 8)), none⟩,
                      ⟨(some 153), .mv (.t 159), none⟩])
                    (.cond (.t 153)
                      .skip
                      (.seq (.region [2, 7, 9, 10, 11, 12, 13, 129, 153] [⟨(some 160), .bin .eql (.t 129) (.c (.int .u8 10)), none⟩,
                        ⟨(some 153), .mv (.t 160), none⟩])
                      (.cond (.t 153)
                        .skip
                        (.seq (.region [2, 7, 9, 10, 11, 12, 13, 129, 153] [⟨(some 161), .bin .eql (.t 129) (.c (.int .u8 26)), none⟩,
                          ⟨(some 153), .mv (.t 161), none⟩])
                        (.cond (.t 153)
                          .skip
                          (.region [2, 7, 9, 10, 11, 12, 13, 129, 153] [⟨(some 162), .bin .eql (.t 129) (.c (.int .u8 13)), none⟩,
                            ⟨(some 153), .mv (.t 162), none⟩])))))))))))))))))
          (.cond (.t 153)
            (.region [2, 7, 9, 10, 11, 12] [⟨(some 163), .mv (.t 11), none⟩,
              ⟨(some 164), .bin .add (.t 163) (.c (.int .i64 1)), none⟩,
              ⟨(some 11), .mv (.t 164), none⟩])
            (.seq (.seq (.region [2, 7, 9, 10, 11, 12, 13, 129, 165] [⟨(some 166), .bin .eql (.t 129) (.c (.int .u8 6)), none⟩,
              ⟨(some 165), .mv (.t 166), none⟩])
            (.cond (.t 165)
              .skip
              (.seq (.region [2, 7, 9, 10, 11, 12, 13, 129, 165] [⟨(some 167), .bin .eql (.t 129) (.c (.int .u8 9)), none⟩,
                ⟨(some 165), .mv (.t 167), none⟩])
              (.cond (.t 165)
                .skip
                (.seq (.region [2, 7, 9, 10, 11, 12, 13, 129, 165] [⟨(some 168), .bin .eql (.t 129) (.c (.int .u8 11)), none⟩,
                  ⟨(some 165), .mv (.t 168), none⟩])
                (.cond (.t 165)
                  .skip
                  (.seq (.region [2, 7, 9, 10, 11, 12, 13, 129, 165] [⟨(some 169), .bin .eql (.t 129) (.c (.int .u8 12)), none⟩,
                    ⟨(some 165), .mv (.t 169), none⟩])
                  (.cond (.t 165)
                    .skip
                    (.seq (.region [2, 7, 9, 10, 11, 12, 13, 129, 165] [⟨(some 170), .bin .eql (.t 129) (.c (.int .u8 30)), none⟩,
                      ⟨(some 165), .mv (.t 170), none⟩])
                    (.cond (.t 165)
                      .skip
                      (.seq (.region [2, 7, 9, 10, 11, 12, 13, 129, 165] [⟨(some 171), .bin .eql (.t 129) (.c (.int .u8 14)), none⟩,
                        ⟨(some 165), .mv (.t 171), none⟩])
                      (.cond (.t 165)
                        .skip
                        (.region [2, 7, 9, 10, 11, 12, 13, 129, 165] [⟨(some 172), .bin .eql (.t 129) (.c (.int .u8 24)), none⟩,
                          ⟨(some 165), .mv (.t 172), none⟩])))))))))))))
            (.cond (.t 165)
              (.region [2, 7, 9, 10, 11, 12] [⟨(some 173), .mv (.t 11), none⟩,
                ⟨(some 174), .bin .sub (.t 173) (.c (.int .i64 1)), none⟩,
                ⟨(some 11), .mv (.t 174), none⟩])
              (.seq (.region [2, 7, 9, 10, 11, 12, 13, 129, 175] [⟨(some 176), .bin .eql (.t 129) (.c (.int .u8 22)), none⟩,
                ⟨(some 175), .mv (.t 176), none⟩])
              (.cond (.t 175)
                (.region [2, 7, 9, 10, 11, 12] [⟨(some 177), .mv (.t 11), none⟩,
                  ⟨(some 178), .bin .add (.t 177) (.c (.int .i64 1)), none⟩,
                  ⟨(some 179), .fieldA 1 (.t 13), none⟩,
                  ⟨(some 180), .load none (.t 179), none⟩,
                  ⟨(some 181), .bin .sub (.t 178) (.t 180), none⟩,
                  ⟨(some 11), .mv (.t 181), none⟩])
                (.seq (.region [2, 7, 9, 10, 11, 12, 13, 129, 182] [⟨(some 183), .bin .eql (.t 129) (.c (.int .u8 23)), none⟩,
                  ⟨(some 182), .mv (.t 183), none⟩])
                (.cond (.t 182)
                  (.region [2, 7, 9, 10, 11, 12] [⟨(some 184), .mv (.t 11), none⟩,
                    ⟨(some 185), .bin .add (.t 184) (.c (.int .i64 1)), none⟩,
                    ⟨(some 186), .fieldA 1 (.t 13), none⟩,
                    ⟨(some 187), .load none (.t 186), none⟩,
                    ⟨(some 188), .bin .mul (.c (.int .i64 2)) (.t 187), none⟩,
                    ⟨(some 189), .bin .sub (.t 185) (.t 188), none⟩,
                    ⟨(some 11), .mv (.t 189), none⟩])
                  (.seq (.region [2, 7, 9, 10, 11, 12, 13, 129, 190] [⟨(some 191), .bin .eql (.t 129) (.c (.int .u8 27)), none⟩,
                    ⟨(some 190), .mv (.t 191), none⟩])
                  (.cond (.t 190)
                    (.region [2, 7, 9, 10, 11, 12] [⟨(some 192), .mv (.t 11), none⟩,
                      ⟨(some 193), .fieldA 1 (.t 13), none⟩,
                      ⟨(some 194), .load none (.t 193), none⟩,
                      ⟨(some 195), .bin .sub (.t 192) (.t 194), none⟩,
                      ⟨(some 11), .mv (.t 195), none⟩])
                    (.seq (.region [2, 7, 9, 10, 11, 12, 196] [⟨(some 197), .bin .eql (.t 129) (.c (.int .u8 25)), none⟩,
                      ⟨(some 196), .mv (.t 197), none⟩])
                    (.cond (.t 196)
                      (.region [2, 7, 9, 10, 11, 12] [⟨(some 198), .mv (.t 11), none⟩,
                        ⟨(some 199), .bin .sub (.t 198) (.c (.int .i64 3)), none⟩,
                        ⟨(some 11), .mv (.t 199), none⟩])
                      .skip))))))))))))))))))))))
  (.region [2, 7, 9, 10, 11, 12] [⟨(some 200), .mv (.t 10), none⟩,
    ⟨(some 201), .bin .add (.t 200) (.c (.int .i64 1)), none⟩,
    ⟨(some 10), .mv (.t 201), none⟩])))))))
  (.region [2, 7, 9, 10, 11, 12] [⟨(some 47), .mv (.t 12), none⟩,
    ⟨(some 48), .bin .add (.t 47) (.c (.int .i64 1)), none⟩,
    ⟨(some 12), .mv (.t 48), none⟩])))
/-- gearbox/gearboxlaw09.VerifyRuns · 3 parameters, 0 captured -/
def x465 : XFun := ⟨[.tmp 6],
  (.seq (.region [0, 1, 2] [⟨(some 6), .mv (.c (.bool false)), none⟩])
  (.seq (.seq (.region [0, 1, 2, 28] [⟨(some 18), .call .view 467 [], none⟩,
    ⟨(some 19), .un .not (.t 18), none⟩,
    ⟨(some 20), .mv (.t 19), none⟩,
    ⟨(some 21), .mv (.t 0), some (20, false)⟩,
    ⟨(some 22), .call .view 468 [(.t 21)], some (20, false)⟩,
    ⟨(some 23), .pick (.t 20) (.c (.bool true)) (.t 22), none⟩,
    ⟨(some 24), .mv (.t 23), none⟩,
    ⟨(some 25), .mv (.t 2), some (24, false)⟩,
    ⟨(some 26), .len (.t 25), some (24, false)⟩,
    ⟨(some 27), .bin .eql (.t 26) (.c (.int .i64 0)), some (24, false)⟩,
    ⟨(some 28), .pick (.t 24) (.c (.bool true)) (.t 27), none⟩])
  (.cond (.t 28)
    (.seq (.region [6] [⟨(some 29), .call .view 467 [], none⟩,
      ⟨(some 6), .mv (.t 29), none⟩])
    .ret)
    .skip))
  (.seq (.region [0, 1, 2, 7, 8] [⟨(some 31), .mv (.t 0), none⟩,
    ⟨(some 32), .mv (.t 1), none⟩,
    ⟨(some 33), .call .view 659 [(.t 31), (.t 32)], none⟩,
    ⟨(some 30), .mv (.t 33), none⟩,
    ⟨(some 34), .extract (.t 30) 0, none⟩,
    ⟨(some 35), .extract (.t 30) 1, none⟩,
    ⟨(some 7), .mv (.t 34), none⟩,
    ⟨(some 8), .mv (.t 35), none⟩])
  (.seq (.seq (.region [0, 1, 2, 7, 37] [⟨(some 36), .mv (.t 8), none⟩,
    ⟨(some 37), .bin .neq (.t 36) (.c (.int .i64 0)), none⟩])
  (.cond (.t 37)
    (.seq (.region [6] [⟨(some 38), .mv (.t 7), none⟩,
      ⟨(some 39), .len (.t 38), none⟩,
      ⟨(some 40), .bin .eql (.t 39) (.c (.int .i64 0)), none⟩,
      ⟨(some 6), .mv (.t 40), none⟩])
    .ret)
    .skip))
  (.seq (.region [2, 7, 9] [⟨(some 41), .mv (.t 0), none⟩,
    ⟨(some 42), .mv (.t 1), none⟩,
    ⟨(some 43), .idxA 8 (.t 41) (.t 42), none⟩,
    ⟨(some 44), .load (some 8) (.t 43), none⟩,
    ⟨(some 9), .alloc [(.string .empty), (.int .i64 0), (.int .i64 0), (.slice none 0 0), (.slice none 0 0), (.slice none 0 0), (.slice none 0 0), (.slice none 0 0)], none⟩,
    ⟨none, .store 8 (.t 9) (.t 44), none⟩])
  (.seq (.region [2, 7, 9, 10, 11] [⟨(some 10), .mv (.c (.int .i64 0)), none⟩,
    ⟨(some 11), .mv (.c (.int .i64 0)), none⟩])
  (.seq (.seq (.region [2, 7, 9, 10, 11, 12] [⟨(some 12), .mv (.c (.int .i64 0)), none⟩])
  (.block 0 (.loop [2, 7, 9, 10, 11, 12] x465L2)))
  (.seq (.region [6] [⟨(some 6), .mv (.c (.bool true)), none⟩])
  .ret))))))))⟩

def x464L1 : XCode :=
  (.seq (.seq (.region [0, 3, 4, 5, 34] [⟨(some 27), .mv (.t 5), none⟩,
    ⟨(some 28), .mv (.t 3), none⟩,
    ⟨(some 29), .mv (.t 4), none⟩,
    ⟨(some 30), .idxA 8 (.t 28) (.t 29), none⟩,
    ⟨(some 31), .fieldA 6 (.t 30), none⟩,
    ⟨(some 32), .load none (.t 31), none⟩,
    ⟨(some 33), .len (.t 32), none⟩,
    ⟨(some 34), .bin .lss (.t 27) (.t 33), none⟩])
  (.cond (.t 34)
    .skip
    (.exit 2)))
  (.seq (.block 3 (.seq (.seq (.region [0, 3, 4, 5, 45] [⟨(some 37), .mv (.t 3), none⟩,
    ⟨(some 38), .mv (.t 4), none⟩,
    ⟨(some 39), .idxA 8 (.t 37) (.t 38), none⟩,
    ⟨(some 40), .fieldA 6 (.t 39), none⟩,
    ⟨(some 41), .load none (.t 40), none⟩,
    ⟨(some 42), .mv (.t 5), none⟩,
    ⟨(some 43), .idxA 1 (.t 41) (.t 42), none⟩,
    ⟨(some 44), .load none (.t 43), none⟩,
    ⟨(some 45), .bin .lss (.t 44) (.c (.int .i64 0)), none⟩])
  (.cond (.t 45)
    (.seq (.region [2] [⟨(some 2), .mv (.c (.bool true)), none⟩])
    .ret)
    .skip))
  (.region [0, 3, 4, 5] [⟨(some 46), .mv (.t 3), none⟩,
    ⟨(some 47), .mv (.t 4), none⟩,
    ⟨(some 48), .idxA 8 (.t 46) (.t 47), none⟩,
    ⟨(some 49), .fieldA 6 (.t 48), none⟩,
    ⟨(some 50), .load none (.t 49), none⟩,
    ⟨(some 51), .mv (.t 5), none⟩,
    ⟨(some 52), .idxA 1 (.t 50) (.t 51), none⟩,
    ⟨none, .store 1 (.t 52) (.c (.int .i64 0)), none⟩])))
  (.region [0, 3, 4, 5] [⟨(some 35), .mv (.t 5), none⟩,
    ⟨(some 36), .bin .add (.t 35) (.c (.int .i64 1)), none⟩,
    ⟨(some 5), .mv (.t 36), none⟩])))
def x464L2 : XCode :=
  (.seq (.seq (.region [0, 3, 4, 24] [⟨(some 21), .mv (.t 4), none⟩,
    ⟨(some 22), .mv (.t 3), none⟩,
    ⟨(some 23), .len (.t 22), none⟩,
    ⟨(some 24), .bin .lss (.t 21) (.t 23), none⟩])
  (.cond (.t 24)
    .skip
    (.exit 0)))
  (.seq (.block 1 (.seq (.seq (.region [0, 3, 4, 5] [⟨(some 5), .mv (.c (.int .i64 0)), none⟩])
  (.block 2 (.loop [0, 3, 4, 5] x464L1)))
  (.seq (.seq (.region [0, 3, 4, 59] [⟨(some 53), .mv (.t 3), none⟩,
    ⟨(some 54), .mv (.t 4), none⟩,
    ⟨(some 55), .idxA 8 (.t 53) (.t 54), none⟩,
    ⟨(some 56), .fieldA 0 (.t 55), none⟩,
    ⟨(some 57), .load none (.t 56), none⟩,
    ⟨(some 58), .lenS (.t 57), none⟩,
    ⟨(some 59), .bin .gtr (.t 58) (.c (.int .i64 4096)), none⟩])
  (.cond (.t 59)
    (.seq (.region [2] [⟨(some 2), .mv (.c (.bool true)), none⟩])
    .ret)
    .skip))
  (.region [0, 3, 4] [⟨(some 60), .mv (.t 3), none⟩,
    ⟨(some 61), .mv (.t 4), none⟩,
    ⟨(some 62), .idxA 8 (.t 60) (.t 61), none⟩,
    ⟨(some 63), .fieldA 0 (.t 62), none⟩,
    ⟨none, .store 1 (.t 63) (.c (.string .empty)), none⟩]))))
  (.region [0, 3, 4] [⟨(some 25), .mv (.t 4), none⟩,
    ⟨(some 26), .bin .add (.t 25) (.c (.int .i64 1)), none⟩,
    ⟨(some 4), .mv (.t 26), none⟩])))
/-- gearbox/gearboxlaw09.VerifyNames · 1 parameters, 0 captured -/
def x464 : XFun := ⟨[.tmp 2],
  (.seq (.region [0] [⟨(some 2), .mv (.c (.bool false)), none⟩])
  (.seq (.seq (.region [0, 17] [⟨(some 12), .call .view 467 [], none⟩,
    ⟨(some 13), .un .not (.t 12), none⟩,
    ⟨(some 14), .mv (.t 13), none⟩,
    ⟨(some 15), .mv (.t 0), some (14, false)⟩,
    ⟨(some 16), .call .view 468 [(.t 15)], some (14, false)⟩,
    ⟨(some 17), .pick (.t 14) (.c (.bool true)) (.t 16), none⟩])
  (.cond (.t 17)
    (.seq (.region [2] [⟨(some 18), .call .view 467 [], none⟩,
      ⟨(some 2), .mv (.t 18), none⟩])
    .ret)
    .skip))
  (.seq (.region [0, 3] [⟨(some 19), .mv (.t 0), none⟩,
    ⟨(some 20), .call .own 374 [(.t 19)], none⟩,
    ⟨(some 3), .mv (.t 20), none⟩])
  (.seq (.seq (.region [0, 3, 4] [⟨(some 4), .mv (.c (.int .i64 0)), none⟩])
  (.block 0 (.loop [0, 3, 4] x464L2)))
  (.seq (.region [3, 6, 7, 8] [⟨(some 65), .mv (.t 0), none⟩,
    ⟨(some 66), .call .view 658 [(.t 65)], none⟩,
    ⟨(some 64), .mv (.t 66), none⟩,
    ⟨(some 67), .extract (.t 64) 0, none⟩,
    ⟨(some 68), .extract (.t 64) 1, none⟩,
    ⟨(some 69), .extract (.t 64) 2, none⟩,
    ⟨(some 6), .mv (.t 67), none⟩,
    ⟨(some 7), .mv (.t 68), none⟩,
    ⟨(some 8), .mv (.t 69), none⟩])
  (.seq (.region [6, 7, 8, 9, 10, 11] [⟨(some 71), .mv (.t 3), none⟩,
    ⟨(some 72), .call .view 658 [(.t 71)], none⟩,
    ⟨(some 70), .mv (.t 72), none⟩,
    ⟨(some 73), .extract (.t 70) 0, none⟩,
    ⟨(some 74), .extract (.t 70) 1, none⟩,
    ⟨(some 75), .extract (.t 70) 2, none⟩,
    ⟨(some 9), .mv (.t 73), none⟩,
    ⟨(some 10), .mv (.t 74), none⟩,
    ⟨(some 11), .mv (.t 75), none⟩])
  (.seq (.region [2] [⟨(some 76), .mv (.t 6), none⟩,
    ⟨(some 77), .mv (.t 9), none⟩,
    ⟨(some 78), .bin .eql (.t 76) (.t 77), none⟩,
    ⟨(some 79), .mv (.t 78), none⟩,
    ⟨(some 80), .mv (.t 7), some (79, true)⟩,
    ⟨(some 81), .mv (.t 10), some (79, true)⟩,
    ⟨(some 82), .bin .eql (.t 80) (.t 81), some (79, true)⟩,
    ⟨(some 83), .pick (.t 79) (.t 82) (.c (.bool false)), none⟩,
    ⟨(some 84), .mv (.t 83), none⟩,
    ⟨(some 85), .mv (.t 8), some (84, true)⟩,
    ⟨(some 86), .mv (.t 11), some (84, true)⟩,
    ⟨(some 87), .bin .eql (.t 85) (.t 86), some (84, true)⟩,
    ⟨(some 88), .pick (.t 84) (.t 87) (.c (.bool false)), none⟩,
    ⟨(some 2), .mv (.t 88), none⟩])
  .ret)))))))⟩

def x468L1 : XCode :=
  (.seq (.seq (.region [0, 3, 4, 8] [⟨(some 5), .mv (.t 4), none⟩,
    ⟨(some 6), .mv (.t 0), none⟩,
    ⟨(some 7), .len (.t 6), none⟩,
    ⟨(some 8), .bin .lss (.t 5) (.t 7), none⟩])
  (.cond (.t 8)
    .skip
    (.exit 0)))
  (.seq (.block 1 (.region [0, 3, 4] [⟨(some 11), .mv (.t 3), none⟩,
    ⟨(some 12), .mv (.t 0), none⟩,
    ⟨(some 13), .mv (.t 4), none⟩,
    ⟨(some 14), .idxA 8 (.t 12) (.t 13), none⟩,
    ⟨(some 15), .fieldA 7 (.t 14), none⟩,
    ⟨(some 16), .load none (.t 15), none⟩,
    ⟨(some 17), .len (.t 16), none⟩,
    ⟨(some 18), .bin .add (.t 11) (.t 17), none⟩,
    ⟨(some 3), .mv (.t 18), none⟩]))
  (.region [0, 3, 4] [⟨(some 9), .mv (.t 4), none⟩,
    ⟨(some 10), .bin .add (.t 9) (.c (.int .i64 1)), none⟩,
    ⟨(some 4), .mv (.t 10), none⟩])))
/-- gearbox/gearboxlaw09.great · 1 parameters, 0 captured -/
def x468 : XFun := ⟨[.tmp 2],
  (.seq (.region [0] [⟨(some 2), .mv (.c (.bool false)), none⟩])
  (.seq (.region [0, 3] [⟨(some 3), .mv (.c (.int .i64 0)), none⟩])
  (.seq (.seq (.region [0, 3, 4] [⟨(some 4), .mv (.c (.int .i64 0)), none⟩])
  (.block 0 (.loop [0, 3, 4] x468L1)))
  (.seq (.region [2] [⟨(some 19), .mv (.t 3), none⟩,
    ⟨(some 20), .bin .gtr (.t 19) (.c (.int .i64 300)), none⟩,
    ⟨(some 21), .mv (.t 20), none⟩,
    ⟨(some 22), .mv (.t 0), some (21, false)⟩,
    ⟨(some 23), .call .view 340 [(.t 22)], some (21, false)⟩,
    ⟨(some 24), .buildSlice 1 [(.int .i64 0)] 1 [(0, 1, (.t 23))], some (21, false)⟩,
    ⟨(some 25), .call .view 303 [(.t 24)], some (21, false)⟩,
    ⟨(some 26), .pick (.t 21) (.c (.bool true)) (.t 25), none⟩,
    ⟨(some 2), .mv (.t 26), none⟩])
  .ret))))⟩

/-- gearbox/gearboxlaw01.TwinProgram · 1 parameters, 0 captured -/
def x374 : XFun := ⟨[.tmp 2],
  (.seq (.region [0] [⟨(some 2), .mv (.c (.slice none 0 0)), none⟩])
  (.seq (.region [2] [⟨(some 3), .mv (.t 0), none⟩,
    ⟨(some 4), .call .own 368 [(.t 3)], none⟩,
    ⟨(some 2), .mv (.t 4), none⟩])
  .ret))⟩

/-- gearbox/verify.Check · 1 parameters, 0 captured -/
def x658 : XFun := ⟨[.tmp 2, .tmp 3, .tmp 4],
  (.seq (.region [0] [⟨(some 2), .mv (.c (.int .i64 0)), none⟩,
    ⟨(some 3), .mv (.c (.int .i64 0)), none⟩,
    ⟨(some 4), .mv (.c (.int .i64 0)), none⟩])
  (.seq (.region [2, 3, 4] [⟨(some 6), .mv (.t 0), none⟩,
    ⟨(some 7), .call .own 661 [(.t 6)], none⟩,
    ⟨(some 5), .mv (.t 7), none⟩,
    ⟨(some 8), .extract (.t 5) 0, none⟩,
    ⟨(some 9), .extract (.t 5) 1, none⟩,
    ⟨(some 10), .extract (.t 5) 2, none⟩,
    ⟨(some 11), .extract (.t 5) 3, none⟩,
    ⟨(some 2), .mv (.t 9), none⟩,
    ⟨(some 3), .mv (.t 10), none⟩,
    ⟨(some 4), .mv (.t 11), none⟩])
  (.seq (.region [2, 3, 4] [⟨(some 12), .mv (.t 2), none⟩,
    ⟨(some 13), .mv (.t 3), none⟩,
    ⟨(some 14), .mv (.t 4), none⟩,
    ⟨(some 2), .mv (.t 12), none⟩,
    ⟨(some 3), .mv (.t 13), none⟩,
    ⟨(some 4), .mv (.t 14), none⟩])
  .ret)))⟩

def x533L1 : XCode :=
  (.seq (.seq (.region [0, 5, 6, 21] [⟨(some 18), .mv (.t 6), none⟩,
    ⟨(some 19), .mv (.t 0), none⟩,
    ⟨(some 20), .len (.t 19), none⟩,
    ⟨(some 21), .bin .lss (.t 18) (.t 20), none⟩])
  (.cond (.t 21)
    .skip
    (.exit 0)))
  (.seq (.block 1 (.region [0, 5, 6] [⟨(some 24), .mv (.t 5), none⟩,
    ⟨(some 25), .buildSlice 1 [(.int .i64 0)] 1 [(0, 1, (.c (.int .i64 (-1))))], none⟩,
    ⟨(some 26), .append 1 8 (.t 24) (.t 25), none⟩,
    ⟨(some 5), .mv (.t 26), none⟩]))
  (.region [0, 5, 6] [⟨(some 22), .mv (.t 6), none⟩,
    ⟨(some 23), .bin .add (.t 22) (.c (.int .i64 1)), none⟩,
    ⟨(some 6), .mv (.t 23), none⟩])))
def x533L2 : XCode :=
  (.seq (.seq (.region [0, 5, 7, 30] [⟨(some 27), .mv (.t 7), none⟩,
    ⟨(some 28), .mv (.t 0), none⟩,
    ⟨(some 29), .len (.t 28), none⟩,
    ⟨(some 30), .bin .lss (.t 27) (.t 29), none⟩])
  (.cond (.t 30)
    .skip
    (.exit 2)))
  (.seq (.block 3 (.seq (.seq (.region [0, 5, 7, 40] [⟨(some 33), .mv (.t 0), none⟩,
    ⟨(some 34), .mv (.t 7), none⟩,
    ⟨(some 35), .idxA 8 (.t 33) (.t 34), none⟩,
    ⟨(some 36), .load (some 8) (.t 35), none⟩,
    ⟨(some 37), .mv (.t 7), none⟩,
    ⟨(some 38), .bin .eql (.t 37) (.c (.int .i64 0)), none⟩,
    ⟨(some 39), .call .view 542 [(.t 36), (.t 38)], none⟩,
    ⟨(some 40), .un .not (.t 39), none⟩])
  (.cond (.t 40)
    (.seq (.region [2, 3, 4] [⟨(some 41), .mv (.t 7), none⟩,
      ⟨(some 2), .mv (.t 41), none⟩,
      ⟨(some 3), .mv (.c (.int .i64 0)), none⟩,
      ⟨(some 4), .mv (.c (.int .i64 8)), none⟩])
    .ret)
    .skip))
  (.seq (.region [0, 5, 7, 8] [⟨(some 42), .mv (.t 0), none⟩,
    ⟨(some 43), .mv (.t 7), none⟩,
    ⟨(some 44), .mv (.t 5), none⟩,
    ⟨(some 45), .call .share 538 [(.t 42), (.t 43), (.t 44)], none⟩,
    ⟨(some 8), .mv (.t 45), none⟩])
  (.seq (.seq (.region [0, 5, 7, 8, 47] [⟨(some 46), .mv (.t 8), none⟩,
    ⟨(some 47), .bin .lss (.t 46) (.c (.int .i64 0)), none⟩])
  (.cond (.t 47)
    (.region [0, 5, 7, 8] [⟨(some 49), .mv (.t 0), none⟩,
      ⟨(some 50), .mv (.t 7), none⟩,
      ⟨(some 51), .idxA 8 (.t 49) (.t 50), none⟩,
      ⟨(some 52), .load (some 8) (.t 51), none⟩,
      ⟨(some 53), .call .view 540 [(.t 52)], none⟩,
      ⟨(some 48), .mv (.t 53), none⟩,
      ⟨(some 54), .extract (.t 48) 0, none⟩,
      ⟨(some 55), .extract (.t 48) 1, none⟩,
      ⟨(some 8), .mv (.t 55), none⟩])
    .skip))
  (.seq (.region [0, 5, 7, 8, 57] [⟨(some 56), .mv (.t 8), none⟩,
    ⟨(some 57), .bin .geq (.t 56) (.c (.int .i64 0)), none⟩])
  (.cond (.t 57)
    (.seq (.region [2, 3, 4] [⟨(some 58), .mv (.t 7), none⟩,
      ⟨(some 59), .mv (.t 8), none⟩,
      ⟨(some 2), .mv (.t 58), none⟩,
      ⟨(some 3), .mv (.t 59), none⟩,
      ⟨(some 4), .mv (.c (.int .i64 8)), none⟩])
    .ret)
    .skip))))))
  (.region [0, 5, 7] [⟨(some 31), .mv (.t 7), none⟩,
    ⟨(some 32), .bin .add (.t 31) (.c (.int .i64 1)), none⟩,
    ⟨(some 7), .mv (.t 32), none⟩])))
def x533L3 : XCode :=
  (.seq (.seq (.region [0, 5, 9, 63] [⟨(some 60), .mv (.t 9), none⟩,
    ⟨(some 61), .mv (.t 0), none⟩,
    ⟨(some 62), .len (.t 61), none⟩,
    ⟨(some 63), .bin .lss (.t 60) (.t 62), none⟩])
  (.cond (.t 63)
    .skip
    (.exit 4)))
  (.seq (.block 5 (.seq (.region [0, 5, 9, 79] [⟨(some 66), .mv (.t 0), none⟩,
    ⟨(some 67), .mv (.t 9), none⟩,
    ⟨(some 68), .idxA 8 (.t 66) (.t 67), none⟩,
    ⟨(some 69), .fieldA 3 (.t 68), none⟩,
    ⟨(some 70), .load none (.t 69), none⟩,
    ⟨(some 71), .len (.t 70), none⟩,
    ⟨(some 72), .bin .gtr (.t 71) (.c (.int .i64 0)), none⟩,
    ⟨(some 73), .mv (.t 72), none⟩,
    ⟨(some 74), .mv (.t 5), some (73, true)⟩,
    ⟨(some 75), .mv (.t 9), some (73, true)⟩,
    ⟨(some 76), .idxA 1 (.t 74) (.t 75), some (73, true)⟩,
    ⟨(some 77), .load none (.t 76), some (73, true)⟩,
    ⟨(some 78), .bin .lss (.t 77) (.c (.int .i64 0)), some (73, true)⟩,
    ⟨(some 79), .pick (.t 73) (.t 78) (.c (.bool false)), none⟩])
  (.cond (.t 79)
    (.seq (.region [2, 3, 4] [⟨(some 80), .mv (.t 9), none⟩,
      ⟨(some 2), .mv (.t 80), none⟩,
      ⟨(some 3), .mv (.c (.int .i64 0)), none⟩,
      ⟨(some 4), .mv (.c (.int .i64 8)), none⟩])
    .ret)
    .skip)))
  (.region [0, 5, 9] [⟨(some 64), .mv (.t 9), none⟩,
    ⟨(some 65), .bin .add (.t 64) (.c (.int .i64 1)), none⟩,
    ⟨(some 9), .mv (.t 65), none⟩])))
/-- gearbox/gearboxref09.Check · 1 parameters, 0 captured -/
def x533 : XFun := ⟨[.tmp 2, .tmp 3, .tmp 4],
  (.seq (.region [0] [⟨(some 2), .mv (.c (.int .i64 0)), none⟩,
    ⟨(some 3), .mv (.c (.int .i64 0)), none⟩,
    ⟨(some 4), .mv (.c (.int .i64 0)), none⟩])
  (.seq (.seq (.region [0, 17] [⟨(some 10), .mv (.t 0), none⟩,
    ⟨(some 11), .len (.t 10), none⟩,
    ⟨(some 12), .bin .eql (.t 11) (.c (.int .i64 0)), none⟩,
    ⟨(some 13), .mv (.t 12), none⟩,
    ⟨(some 14), .mv (.t 0), some (13, false)⟩,
    ⟨(some 15), .len (.t 14), some (13, false)⟩,
    ⟨(some 16), .bin .gtr (.t 15) (.c (.int .i64 256)), some (13, false)⟩,
    ⟨(some 17), .pick (.t 13) (.c (.bool true)) (.t 16), none⟩])
  (.cond (.t 17)
    (.seq (.region [2, 3, 4] [⟨(some 2), .mv (.c (.int .i64 0)), none⟩,
      ⟨(some 3), .mv (.c (.int .i64 0)), none⟩,
      ⟨(some 4), .mv (.c (.int .i64 8)), none⟩])
    .ret)
    .skip))
  (.seq (.region [0, 5] [⟨(some 5), .mv (.c (.slice none 0 0)), none⟩])
  (.seq (.seq (.region [0, 5, 6] [⟨(some 6), .mv (.c (.int .i64 0)), none⟩])
  (.block 0 (.loop [0, 5, 6] x533L1)))
  (.seq (.seq (.region [0, 5, 7] [⟨(some 7), .mv (.c (.int .i64 0)), none⟩])
  (.block 2 (.loop [0, 5, 7] x533L2)))
  (.seq (.seq (.region [0, 5, 9] [⟨(some 9), .mv (.c (.int .i64 0)), none⟩])
  (.block 4 (.loop [0, 5, 9] x533L3)))
  (.seq (.region [2, 3, 4] [⟨(some 2), .mv (.c (.int .i64 0)), none⟩,
    ⟨(some 3), .mv (.c (.int .i64 0)), none⟩,
    ⟨(some 4), .mv (.c (.int .i64 0)), none⟩])
  .ret)))))))⟩

/-- gearbox/gearboxlaw01.LeftProgram · 2 parameters, 0 captured -/
def x331 : XFun := ⟨[.tmp 4],
  (.seq (.region [0, 1] [⟨(some 4), .mv (.c (.bool false)), none⟩])
  (.seq (.region [4] [⟨(some 5), .mv (.t 0), none⟩,
    ⟨(some 6), .mv (.t 1), none⟩,
    ⟨(some 7), .call .view 325 [(.t 5), (.t 6)], none⟩,
    ⟨(some 4), .mv (.t 7), none⟩])
  .ret))⟩

/-- gearbox/gearboxlaw09.alive · 0 parameters, 0 captured -/
def x467 : XFun := ⟨[.tmp 0],
  (.seq (.region [] [⟨(some 0), .mv (.c (.bool false)), none⟩])
  (.seq (.region [1] [⟨(some 13), .build [(.int .u8 0), (.int .i64 0)] [(0, 1, (.c (.int .u8 3)))], none⟩,
    ⟨(some 14), .build [(.int .u8 0), (.int .i64 0)] [(0, 1, (.c (.int .u8 20))), (1, 1, (.c (.int .i64 3)))], none⟩,
    ⟨(some 15), .build [(.int .u8 0), (.int .i64 0)] [(0, 1, (.c (.int .u8 21)))], none⟩,
    ⟨(some 16), .build [(.int .u8 0), (.int .i64 0)] [(0, 1, (.c (.int .u8 2)))], none⟩,
    ⟨(some 17), .build [(.int .u8 0), (.int .i64 0)] [(0, 1, (.c (.int .u8 28)))], none⟩,
    ⟨(some 18), .buildSlice 2 [(.int .u8 0), (.int .i64 0)] 5 [(0, 2, (.t 13)), (2, 2, (.t 14)), (4, 2, (.t 15)), (6, 2, (.t 16)), (8, 2, (.t 17))], none⟩,
    ⟨(some 19), .call .share 470 [(.t 18)], none⟩,
    ⟨(some 1), .mv (.t 19), none⟩])
  (.seq (.region [1, 2] [⟨(some 20), .build [(.int .u8 0), (.int .i64 0)] [(0, 1, (.c (.int .u8 2)))], none⟩,
    ⟨(some 21), .build [(.int .u8 0), (.int .i64 0)] [(0, 1, (.c (.int .u8 2)))], none⟩,
    ⟨(some 22), .build [(.int .u8 0), (.int .i64 0)] [(0, 1, (.c (.int .u8 20))), (1, 1, (.c (.int .i64 4)))], none⟩,
    ⟨(some 23), .build [(.int .u8 0), (.int .i64 0)] [(0, 1, (.c (.int .u8 12)))], none⟩,
    ⟨(some 24), .build [(.int .u8 0), (.int .i64 0)] [(0, 1, (.c (.int .u8 2)))], none⟩,
    ⟨(some 25), .build [(.int .u8 0), (.int .i64 0)] [(0, 1, (.c (.int .u8 28)))], none⟩,
    ⟨(some 26), .buildSlice 2 [(.int .u8 0), (.int .i64 0)] 6 [(0, 2, (.t 20)), (2, 2, (.t 21)), (4, 2, (.t 22)), (6, 2, (.t 23)), (8, 2, (.t 24)), (10, 2, (.t 25))], none⟩,
    ⟨(some 27), .call .share 470 [(.t 26)], none⟩,
    ⟨(some 2), .mv (.t 27), none⟩])
  (.seq (.region [1, 2, 5] [⟨(some 29), .mv (.t 1), none⟩,
    ⟨(some 30), .call .view 658 [(.t 29)], none⟩,
    ⟨(some 28), .mv (.t 30), none⟩,
    ⟨(some 31), .extract (.t 28) 0, none⟩,
    ⟨(some 32), .extract (.t 28) 1, none⟩,
    ⟨(some 33), .extract (.t 28) 2, none⟩,
    ⟨(some 3), .mv (.t 31), none⟩,
    ⟨(some 4), .mv (.t 32), none⟩,
    ⟨(some 5), .mv (.t 33), none⟩])
  (.seq (.region [1, 5, 6, 7, 8] [⟨(some 35), .mv (.t 2), none⟩,
    ⟨(some 36), .call .view 658 [(.t 35)], none⟩,
    ⟨(some 34), .mv (.t 36), none⟩,
    ⟨(some 37), .extract (.t 34) 0, none⟩,
    ⟨(some 38), .extract (.t 34) 1, none⟩,
    ⟨(some 39), .extract (.t 34) 2, none⟩,
    ⟨(some 6), .mv (.t 37), none⟩,
    ⟨(some 7), .mv (.t 38), none⟩,
    ⟨(some 8), .mv (.t 39), none⟩])
  (.seq (.region [1, 5, 6, 7, 8, 9, 10] [⟨(some 41), .mv (.t 1), none⟩,
    ⟨(some 42), .call .own 659 [(.t 41), (.c (.int .i64 0))], none⟩,
    ⟨(some 40), .mv (.t 42), none⟩,
    ⟨(some 43), .extract (.t 40) 0, none⟩,
    ⟨(some 44), .extract (.t 40) 1, none⟩,
    ⟨(some 9), .mv (.t 43), none⟩,
    ⟨(some 10), .mv (.t 44), none⟩])
  (.seq (.region [5, 6, 7, 8, 9, 10, 12] [⟨(some 46), .mv (.t 1), none⟩,
    ⟨(some 47), .call .own 659 [(.t 46), (.c (.int .i64 1))], none⟩,
    ⟨(some 45), .mv (.t 47), none⟩,
    ⟨(some 48), .extract (.t 45) 0, none⟩,
    ⟨(some 49), .extract (.t 45) 1, none⟩,
    ⟨(some 11), .mv (.t 48), none⟩,
    ⟨(some 12), .mv (.t 49), none⟩])
  (.seq (.region [0] [⟨(some 50), .mv (.t 5), none⟩,
    ⟨(some 51), .bin .eql (.t 50) (.c (.int .i64 0)), none⟩,
    ⟨(some 52), .mv (.t 51), none⟩,
    ⟨(some 53), .mv (.t 6), some (52, true)⟩,
    ⟨(some 54), .bin .eql (.t 53) (.c (.int .i64 0)), some (52, true)⟩,
    ⟨(some 55), .pick (.t 52) (.t 54) (.c (.bool false)), none⟩,
    ⟨(some 56), .mv (.t 55), none⟩,
    ⟨(some 57), .mv (.t 7), some (56, true)⟩,
    ⟨(some 58), .bin .eql (.t 57) (.c (.int .i64 3)), some (56, true)⟩,
    ⟨(some 59), .pick (.t 56) (.t 58) (.c (.bool false)), none⟩,
    ⟨(some 60), .mv (.t 59), none⟩,
    ⟨(some 61), .mv (.t 8), some (60, true)⟩,
    ⟨(some 62), .bin .eql (.t 61) (.c (.int .i64 8)), some (60, true)⟩,
    ⟨(some 63), .pick (.t 60) (.t 62) (.c (.bool false)), none⟩,
    ⟨(some 64), .mv (.t 63), none⟩,
    ⟨(some 65), .mv (.t 10), some (64, true)⟩,
    ⟨(some 66), .bin .eql (.t 65) (.c (.int .i64 0)), some (64, true)⟩,
    ⟨(some 67), .pick (.t 64) (.t 66) (.c (.bool false)), none⟩,
    ⟨(some 68), .mv (.t 67), none⟩,
    ⟨(some 69), .mv (.t 12), some (68, true)⟩,
    ⟨(some 70), .bin .eql (.t 69) (.c (.int .i64 1)), some (68, true)⟩,
    ⟨(some 71), .pick (.t 68) (.t 70) (.c (.bool false)), none⟩,
    ⟨(some 72), .mv (.t 71), none⟩,
    ⟨(some 73), .mv (.t 9), some (72, true)⟩,
    ⟨(some 74), .buildSlice 1 [(.int .i64 0)] 5 [(0, 1, (.c (.int .i64 0))), (1, 1, (.c (.int .i64 1))), (2, 1, (.c (.int .i64 0))), (3, 1, (.c (.int .i64 0))), (4, 1, (.c (.int .i64 1)))], some (72, true)⟩,
    ⟨(some 75), .call .view 350 [(.t 73), (.t 74)], some (72, true)⟩,
    ⟨(some 76), .pick (.t 72) (.t 75) (.c (.bool false)), none⟩,
    ⟨(some 0), .mv (.t 76), none⟩])
  .ret))))))))⟩

/-- gearbox/verify.Depths · 2 parameters, 0 captured -/
def x659 : XFun := ⟨[.tmp 4, .tmp 5],
  (.seq (.region [0, 1] [⟨(some 4), .mv (.c (.slice none 0 0)), none⟩,
    ⟨(some 5), .mv (.c (.int .i64 0)), none⟩])
  (.seq (.region [0, 1, 6, 9] [⟨(some 13), .mv (.t 0), none⟩,
    ⟨(some 14), .call .own 661 [(.t 13)], none⟩,
    ⟨(some 12), .mv (.t 14), none⟩,
    ⟨(some 15), .extract (.t 12) 0, none⟩,
    ⟨(some 16), .extract (.t 12) 1, none⟩,
    ⟨(some 17), .extract (.t 12) 2, none⟩,
    ⟨(some 18), .extract (.t 12) 3, none⟩,
    ⟨(some 6), .mv (.t 15), none⟩,
    ⟨(some 7), .mv (.t 16), none⟩,
    ⟨(some 8), .mv (.t 17), none⟩,
    ⟨(some 9), .mv (.t 18), none⟩])
  (.seq (.block 0 (.seq (.region [0, 1, 6, 9, 19] [⟨(some 20), .mv (.t 9), none⟩,
    ⟨(some 21), .bin .neq (.t 20) (.c (.int .i64 0)), none⟩,
    ⟨(some 19), .mv (.t 21), none⟩])
  (.cond (.t 19)
    (.seq (.region [4, 5] [⟨(some 22), .mv (.t 9), none⟩,
      ⟨(some 4), .mv (.c (.slice none 0 0)), none⟩,
      ⟨(some 5), .mv (.t 22), none⟩])
    .ret)
    (.seq (.region [1, 6, 23] [⟨(some 24), .mv (.t 1), none⟩,
      ⟨(some 25), .mv (.t 0), none⟩,
      ⟨(some 26), .len (.t 25), none⟩,
      ⟨(some 27), .call .view 660 [(.t 24), (.c (.int .i64 0)), (.t 26)], none⟩,
      ⟨(some 28), .un .not (.t 27), none⟩,
      ⟨(some 23), .mv (.t 28), none⟩])
    (.cond (.t 23)
      (.seq (.region [4, 5] [⟨(some 4), .mv (.c (.slice none 0 0)), none⟩,
        ⟨(some 5), .mv (.c (.int .i64 1)), none⟩])
      .ret)
      .skip)))))
  (.seq (.region [10] [⟨(some 30), .mv (.t 6), none⟩,
    ⟨(some 31), .mv (.t 1), none⟩,
    ⟨(some 32), .call .share 248 [(.t 30), (.t 31)], none⟩,
    ⟨(some 29), .mv (.t 32), none⟩,
    ⟨(some 33), .extract (.t 29) 0, none⟩,
    ⟨(some 34), .extract (.t 29) 1, none⟩,
    ⟨(some 10), .mv (.t 33), none⟩,
    ⟨(some 11), .mv (.t 34), none⟩])
  (.seq (.region [4, 5] [⟨(some 35), .mv (.t 10), none⟩,
    ⟨(some 4), .mv (.t 35), none⟩,
    ⟨(some 5), .mv (.c (.int .i64 0)), none⟩])
  .ret)))))⟩

def x303L1 : XCode :=
  (.seq (.seq (.region [0, 3, 4, 8] [⟨(some 5), .mv (.t 4), none⟩,
    ⟨(some 6), .mv (.t 0), none⟩,
    ⟨(some 7), .len (.t 6), none⟩,
    ⟨(some 8), .bin .lss (.t 5) (.t 7), none⟩])
  (.cond (.t 8)
    .skip
    (.exit 0)))
  (.seq (.block 1 (.seq (.region [0, 3, 4] [⟨(some 11), .mv (.t 3), none⟩,
    ⟨(some 12), .mv (.t 0), none⟩,
    ⟨(some 13), .mv (.t 4), none⟩,
    ⟨(some 14), .idxA 1 (.t 12) (.t 13), none⟩,
    ⟨(some 15), .load none (.t 14), none⟩,
    ⟨(some 16), .bin .add (.t 11) (.t 15), none⟩,
    ⟨(some 3), .mv (.t 16), none⟩])
  (.seq (.region [0, 3, 4, 18] [⟨(some 17), .mv (.t 3), none⟩,
    ⟨(some 18), .bin .gtr (.t 17) (.c (.int .i64 1048576)), none⟩])
  (.cond (.t 18)
    (.seq (.region [2] [⟨(some 2), .mv (.c (.bool true)), none⟩])
    .ret)
    .skip))))
  (.region [0, 3, 4] [⟨(some 9), .mv (.t 4), none⟩,
    ⟨(some 10), .bin .add (.t 9) (.c (.int .i64 1)), none⟩,
    ⟨(some 4), .mv (.t 10), none⟩])))
/-- gearbox/gearboxlaw01.Beyond · 1 parameters, 0 captured -/
def x303 : XFun := ⟨[.tmp 2],
  (.seq (.region [0] [⟨(some 2), .mv (.c (.bool false)), none⟩])
  (.seq (.region [0, 3] [⟨(some 3), .mv (.c (.int .i64 0)), none⟩])
  (.seq (.seq (.region [0, 3, 4] [⟨(some 4), .mv (.c (.int .i64 0)), none⟩])
  (.block 0 (.loop [0, 3, 4] x303L1)))
  (.seq (.region [2] [⟨(some 2), .mv (.c (.bool false)), none⟩])
  .ret))))⟩

/-- gearbox/gearboxlaw01.ProgramSize · 1 parameters, 0 captured -/
def x340 : XFun := ⟨[.tmp 2],
  (.seq (.region [0] [⟨(some 2), .mv (.c (.int .i64 0)), none⟩])
  (.seq (.region [2] [⟨(some 3), .mv (.t 0), none⟩,
    ⟨(some 4), .call .view 313 [(.t 3)], none⟩,
    ⟨(some 2), .mv (.t 4), none⟩])
  .ret))⟩

def x368L1 : XCode :=
  (.seq (.seq (.region [0, 3, 4, 12] [⟨(some 9), .mv (.t 4), none⟩,
    ⟨(some 10), .mv (.t 0), none⟩,
    ⟨(some 11), .len (.t 10), none⟩,
    ⟨(some 12), .bin .lss (.t 9) (.t 11), none⟩])
  (.cond (.t 12)
    .skip
    (.exit 0)))
  (.seq (.block 1 (.region [0, 3, 4] [⟨(some 15), .mv (.t 3), none⟩,
    ⟨(some 16), .mv (.t 0), none⟩,
    ⟨(some 17), .mv (.t 4), none⟩,
    ⟨(some 18), .idxA 8 (.t 16) (.t 17), none⟩,
    ⟨(some 19), .load (some 8) (.t 18), none⟩,
    ⟨(some 20), .call .own 367 [(.t 19)], none⟩,
    ⟨(some 21), .buildSlice 8 [(.string .empty), (.int .i64 0), (.int .i64 0), (.slice none 0 0), (.slice none 0 0), (.slice none 0 0), (.slice none 0 0), (.slice none 0 0)] 1 [(0, 8, (.t 20))], none⟩,
    ⟨(some 22), .append 8 152 (.t 15) (.t 21), none⟩,
    ⟨(some 3), .mv (.t 22), none⟩]))
  (.region [0, 3, 4] [⟨(some 13), .mv (.t 4), none⟩,
    ⟨(some 14), .bin .add (.t 13) (.c (.int .i64 1)), none⟩,
    ⟨(some 4), .mv (.t 14), none⟩])))
/-- gearbox/gearboxlaw01.TwinFns · 1 parameters, 0 captured -/
def x368 : XFun := ⟨[.tmp 2],
  (.seq (.region [0] [⟨(some 2), .mv (.c (.slice none 0 0)), none⟩])
  (.seq (.region [0, 3] [⟨(some 5), .mv (.t 0), none⟩,
    ⟨(some 6), .len (.t 5), none⟩,
    ⟨(some 7), .bin .add (.t 6) (.c (.int .i64 1)), none⟩,
    ⟨(some 8), .makeSlice 8 152 [(.string .empty), (.int .i64 0), (.int .i64 0), (.slice none 0 0), (.slice none 0 0), (.slice none 0 0), (.slice none 0 0), (.slice none 0 0)] (.c (.int .i64 0)) (.t 7), none⟩,
    ⟨(some 3), .mv (.t 8), none⟩])
  (.seq (.seq (.region [0, 3, 4] [⟨(some 4), .mv (.c (.int .i64 0)), none⟩])
  (.block 0 (.loop [0, 3, 4] x368L1)))
  (.seq (.region [2] [⟨(some 23), .mv (.t 3), none⟩,
    ⟨(some 24), .build [(.string .empty), (.int .i64 0), (.int .i64 0), (.slice none 0 0), (.slice none 0 0), (.slice none 0 0), (.slice none 0 0), (.slice none 0 0)] [(0, 1, (.c (.string ⟨#[115, 112, 97, 114, 101]⟩)))], none⟩,
    ⟨(some 25), .buildSlice 8 [(.string .empty), (.int .i64 0), (.int .i64 0), (.slice none 0 0), (.slice none 0 0), (.slice none 0 0), (.slice none 0 0), (.slice none 0 0)] 1 [(0, 8, (.t 24))], none⟩,
    ⟨(some 26), .append 8 152 (.t 23) (.t 25), none⟩,
    ⟨(some 27), .mv (.t 0), none⟩,
    ⟨(some 28), .len (.t 27), none⟩,
    ⟨(some 29), .slice 8 (.t 26) none (some (.t 28)), none⟩,
    ⟨(some 2), .mv (.t 29), none⟩])
  .ret))))⟩

def x661L1 : XCode :=
  (.seq (.region [0, 2, 3, 4, 20, 21, 22] [⟨(some 22), .bin .lss (.t 21) (.t 20), none⟩])
  (.seq (.cond (.t 22)
    .skip
    (.exit 0))
  (.seq (.block 1 (.seq (.region [0, 2, 3, 20, 21] [⟨(some 23), .mv (.t 21), none⟩,
    ⟨(some 3), .mv (.t 23), none⟩])
  (.seq (.region [0, 2, 3, 4, 20, 21] [⟨(some 4), .mv (.c (.int .i64 0)), none⟩])
  (.seq (.seq (.region [0, 2, 3, 4, 20, 21, 27] [⟨(some 24), .mv (.t 2), none⟩,
    ⟨(some 25), .mv (.t 3), none⟩,
    ⟨(some 26), .call .share 251 [(.t 24), (.t 25)], none⟩,
    ⟨(some 27), .un .not (.t 26), none⟩])
  (.cond (.t 27)
    (.exit 0)
    .skip))
  (.seq (.seq (.region [0, 2, 3, 4, 20, 21] [⟨(some 28), .mv (.t 2), none⟩,
    ⟨(some 29), .mv (.t 3), none⟩,
    ⟨(some 30), .call .share 247 [(.t 28), (.t 29)], none⟩,
    ⟨(some 4), .mv (.t 30), none⟩])
  (.seq (.region [0, 2, 3, 4, 20, 21, 32] [⟨(some 31), .mv (.t 4), none⟩,
    ⟨(some 32), .bin .geq (.t 31) (.c (.int .i64 0)), none⟩])
  (.cond (.t 32)
    (.exit 0)
    .skip)))
  (.seq (.region [0, 2, 3, 4, 20, 21] [⟨(some 34), .mv (.t 2), none⟩,
    ⟨(some 35), .mv (.t 3), none⟩,
    ⟨(some 36), .call .share 248 [(.t 34), (.t 35)], none⟩,
    ⟨(some 33), .mv (.t 36), none⟩,
    ⟨(some 37), .extract (.t 33) 0, none⟩,
    ⟨(some 38), .extract (.t 33) 1, none⟩,
    ⟨(some 4), .mv (.t 38), none⟩])
  (.seq (.region [0, 2, 3, 4, 20, 21, 40] [⟨(some 39), .mv (.t 4), none⟩,
    ⟨(some 40), .bin .geq (.t 39) (.c (.int .i64 0)), none⟩])
  (.cond (.t 40)
    (.exit 0)
    .skip))))))))
  (.region [0, 2, 3, 4, 20, 21] [⟨(some 41), .bin .add (.t 21) (.c (.int .i64 1)), none⟩,
    ⟨(some 21), .mv (.t 41), none⟩]))))
def x661L2 : XCode :=
  (.seq (.region [2, 46, 47, 48, 49] [⟨(some 49), .bin .lss (.t 48) (.t 47), none⟩])
  (.seq (.cond (.t 49)
    .skip
    (.exit 2))
  (.seq (.block 3 (.seq (.region [2, 6, 7, 46, 47, 48] [⟨(some 50), .mv (.t 48), none⟩,
    ⟨(some 51), .idxA 8 (.t 46) (.t 48), none⟩,
    ⟨(some 52), .load (some 8) (.t 51), none⟩,
    ⟨(some 7), .alloc [(.string .empty), (.int .i64 0), (.int .i64 0), (.slice none 0 0), (.slice none 0 0), (.slice none 0 0), (.slice none 0 0), (.slice none 0 0)], none⟩,
    ⟨(some 6), .mv (.t 50), none⟩,
    ⟨none, .store 8 (.t 7) (.t 52), none⟩])
  (.seq (.region [2, 6, 7, 9, 46, 47, 48] [⟨(some 54), .mv (.t 2), none⟩,
    ⟨(some 55), .nilCheck (.t 54), none⟩,
    ⟨(some 56), .fieldA 125 (.t 55), none⟩,
    ⟨(some 57), .load none (.t 56), none⟩,
    ⟨(some 58), .mv (.t 6), none⟩,
    ⟨(some 59), .lookup 0 [(.int .i64 0)] false (.t 57) (.t 58) true, none⟩,
    ⟨(some 53), .mv (.t 59), none⟩,
    ⟨(some 60), .extract (.t 53) 0, none⟩,
    ⟨(some 61), .extract (.t 53) 1, none⟩,
    ⟨(some 8), .mv (.t 60), none⟩,
    ⟨(some 9), .mv (.t 61), none⟩])
  (.seq (.region [2, 6, 46, 47, 48, 69] [⟨(some 62), .mv (.t 9), none⟩,
    ⟨(some 63), .un .not (.t 62), none⟩,
    ⟨(some 64), .mv (.t 63), none⟩,
    ⟨(some 65), .fieldA 3 (.t 7), some (64, true)⟩,
    ⟨(some 66), .load none (.t 65), some (64, true)⟩,
    ⟨(some 67), .len (.t 66), some (64, true)⟩,
    ⟨(some 68), .bin .gtr (.t 67) (.c (.int .i64 0)), some (64, true)⟩,
    ⟨(some 69), .pick (.t 64) (.t 68) (.c (.bool false)), none⟩])
  (.cond (.t 69)
    (.seq (.region [2, 3, 4, 5] [⟨(some 70), .mv (.t 6), none⟩,
      ⟨(some 2), .mv (.c (.pointer none)), none⟩,
      ⟨(some 3), .mv (.t 70), none⟩,
      ⟨(some 4), .mv (.c (.int .i64 0)), none⟩,
      ⟨(some 5), .mv (.c (.int .i64 8)), none⟩])
    .ret)
    .skip)))))
  (.region [2, 46, 47, 48] [⟨(some 71), .bin .add (.t 48) (.c (.int .i64 1)), none⟩,
    ⟨(some 48), .mv (.t 71), none⟩]))))
/-- gearbox/verify.look · 1 parameters, 0 captured -/
def x661 : XFun := ⟨[.tmp 2, .tmp 3, .tmp 4, .tmp 5],
  (.seq (.region [0, 3, 4] [⟨(some 2), .mv (.c (.pointer none)), none⟩,
    ⟨(some 3), .mv (.c (.int .i64 0)), none⟩,
    ⟨(some 4), .mv (.c (.int .i64 0)), none⟩,
    ⟨(some 5), .mv (.c (.int .i64 0)), none⟩])
  (.seq (.seq (.region [0, 3, 4, 13] [⟨(some 10), .mv (.t 0), none⟩,
    ⟨(some 11), .len (.t 10), none⟩,
    ⟨(some 12), .call .view 660 [(.t 11), (.c (.int .i64 1)), (.c (.int .i64 257))], none⟩,
    ⟨(some 13), .un .not (.t 12), none⟩])
  (.cond (.t 13)
    (.seq (.region [2, 3, 4, 5] [⟨(some 2), .mv (.c (.pointer none)), none⟩,
      ⟨(some 3), .mv (.c (.int .i64 0)), none⟩,
      ⟨(some 4), .mv (.c (.int .i64 0)), none⟩,
      ⟨(some 5), .mv (.c (.int .i64 8)), none⟩])
    .ret)
    .skip))
  (.seq (.region [0, 2, 3, 4] [⟨(some 14), .mv (.t 0), none⟩,
    ⟨(some 15), .call .view 662 [], none⟩,
    ⟨(some 16), .makeMap none, none⟩,
    ⟨(some 17), .build [(.slice none 0 0), (.int .u8 0), (.int .i64 0), (.int .i64 0), (.int .i64 0), (.int .u8 0), (.int .i64 0), (.int .i64 0), (.int .i64 0), (.int .u8 0), (.int .i64 0), (.int .i64 0), (.int .i64 0), (.int .u8 0), (.int .i64 0), (.int .i64 0), (.int .i64 0), (.int .u8 0), (.int .i64 0), (.int .i64 0), (.int .i64 0), (.int .u8 0), (.int .i64 0), (.int .i64 0), (.int .i64 0), (.int .u8 0), (.int .i64 0), (.int .i64 0), (.int .i64 0), (.int .u8 0), (.int .i64 0), (.int .i64 0), (.int .i64 0), (.int .u8 0), (.int .i64 0), (.int .i64 0), (.int .i64 0), (.int .u8 0), (.int .i64 0), (.int .i64 0), (.int .i64 0), (.int .u8 0), (.int .i64 0), (.int .i64 0), (.int .i64 0), (.int .u8 0), (.int .i64 0), (.int .i64 0), (.int .i64 0), (.int .u8 0), (.int .i64 0), (.int .i64 0), (.int .i64 0), (.int .u8 0), (.int .i64 0), (.int .i64 0), (.int .i64 0), (.int .u8 0), (.int .i64 0), (.int .i64 0), (.int .i64 0), (.int .u8 0), (.int .i64 0), (.int .i64 0), (.int .i64 0), (.int .u8 0), (.int .i64 0), (.int .i64 0), (.int .i64 0), (.int .u8 0), (.int .i64 0), (.int .i64 0), (.int .i64 0), (.int .u8 0), (.int .i64 0), (.int .i64 0), (.int .i64 0), (.int .u8 0), (.int .i64 0), (.int .i64 0), (.int .i64 0), (.int .u8 0), (.int .i64 0), (.int .i64 0), (.int .i64 0), (.int .u8 0), (.int .i64 0), (.int .i64 0), (.int .i64 0), (.int .u8 0), (.int .i64 0), (.int .i64 0), (.int .i64 0), (.int .u8 0), (.int .i64 0), (.int .i64 0), (.int .i64 0), (.int .u8 0), (.int .i64 0), (.int .i64 0), (.int .i64 0), (.int .u8 0), (.int .i64 0), (.int .i64 0), (.int .i64 0), (.int .u8 0), (.int .i64 0), (.int .i64 0), (.int .i64 0), (.int .u8 0), (.int .i64 0), (.int .i64 0), (.int .i64 0), (.int .u8 0), (.int .i64 0), (.int .i64 0), (.int .i64 0), (.int .u8 0), (.int .i64 0), (.int .i64 0), (.int .i64 0), (.int .u8 0), (.int .i64 0), (.int .i64 0), (.int .i64 0), (.map none)] [(0, 1, (.t 14)), (1, 124, (.t 15)), (125, 1, (.t 16))], none⟩,
    ⟨(some 18), .box 126 (.t 17), none⟩,
    ⟨(some 2), .mv (.t 18), none⟩])
  (.seq .skip
  (.seq (.seq (.region [0, 2, 3, 4, 20, 21] [⟨(some 19), .mv (.t 0), none⟩,
    ⟨(some 20), .len (.t 19), none⟩,
    ⟨(some 21), .mv (.c (.int .i64 0)), none⟩])
  (.block 0 (.loop [0, 2, 3, 4, 20, 21] x661L1)))
  (.seq (.seq (.region [0, 2, 3, 4, 43] [⟨(some 42), .mv (.t 4), none⟩,
    ⟨(some 43), .bin .geq (.t 42) (.c (.int .i64 0)), none⟩])
  (.cond (.t 43)
    (.seq (.region [2, 3, 4, 5] [⟨(some 44), .mv (.t 3), none⟩,
      ⟨(some 45), .mv (.t 4), none⟩,
      ⟨(some 2), .mv (.c (.pointer none)), none⟩,
      ⟨(some 3), .mv (.t 44), none⟩,
      ⟨(some 4), .mv (.t 45), none⟩,
      ⟨(some 5), .mv (.c (.int .i64 8)), none⟩])
    .ret)
    .skip))
  (.seq (.seq (.region [2, 46, 47, 48] [⟨(some 46), .mv (.t 0), none⟩,
    ⟨(some 47), .len (.t 46), none⟩,
    ⟨(some 48), .mv (.c (.int .i64 0)), none⟩])
  (.block 2 (.loop [2, 46, 47, 48] x661L2)))
  (.seq (.region [2, 3, 4, 5] [⟨(some 72), .mv (.t 2), none⟩,
    ⟨(some 2), .mv (.t 72), none⟩,
    ⟨(some 3), .mv (.c (.int .i64 0)), none⟩,
    ⟨(some 4), .mv (.c (.int .i64 0)), none⟩,
    ⟨(some 5), .mv (.c (.int .i64 0)), none⟩])
  .ret))))))))⟩

def x542L1 : XCode :=
  (.seq (.seq (.region [2, 5, 6, 83] [⟨(some 79), .mv (.t 6), none⟩,
    ⟨(some 80), .fieldA 4 (.t 2), none⟩,
    ⟨(some 81), .load none (.t 80), none⟩,
    ⟨(some 82), .len (.t 81), none⟩,
    ⟨(some 83), .bin .lss (.t 79) (.t 82), none⟩])
  (.cond (.t 83)
    .skip
    (.exit 0)))
  (.seq (.block 1 (.seq (.region [2, 5, 6, 92] [⟨(some 86), .fieldA 4 (.t 2), none⟩,
    ⟨(some 87), .load none (.t 86), none⟩,
    ⟨(some 88), .mv (.t 6), none⟩,
    ⟨(some 89), .idxA 3 (.t 87) (.t 88), none⟩,
    ⟨(some 90), .load (some 3) (.t 89), none⟩,
    ⟨(some 91), .call .view 539 [(.t 90)], none⟩,
    ⟨(some 92), .un .not (.t 91), none⟩])
  (.cond (.t 92)
    (.seq (.region [4] [⟨(some 4), .mv (.c (.bool false)), none⟩])
    .ret)
    .skip)))
  (.region [2, 5, 6] [⟨(some 84), .mv (.t 6), none⟩,
    ⟨(some 85), .bin .add (.t 84) (.c (.int .i64 1)), none⟩,
    ⟨(some 6), .mv (.t 85), none⟩])))
def x542L2 : XCode :=
  (.seq (.seq (.region [2, 5, 7, 95] [⟨(some 93), .mv (.t 7), none⟩,
    ⟨(some 94), .mv (.t 5), none⟩,
    ⟨(some 95), .bin .lss (.t 93) (.t 94), none⟩])
  (.cond (.t 95)
    .skip
    (.exit 2)))
  (.seq (.block 3 (.seq (.region [2, 5, 7, 103] [⟨(some 98), .fieldA 6 (.t 2), none⟩,
    ⟨(some 99), .load none (.t 98), none⟩,
    ⟨(some 100), .mv (.t 7), none⟩,
    ⟨(some 101), .idxA 1 (.t 99) (.t 100), none⟩,
    ⟨(some 102), .load none (.t 101), none⟩,
    ⟨(some 103), .bin .lss (.t 102) (.c (.int .i64 0)), none⟩])
  (.cond (.t 103)
    (.seq (.region [4] [⟨(some 4), .mv (.c (.bool false)), none⟩])
    .ret)
    .skip)))
  (.region [2, 5, 7] [⟨(some 96), .mv (.t 7), none⟩,
    ⟨(some 97), .bin .add (.t 96) (.c (.int .i64 1)), none⟩,
    ⟨(some 7), .mv (.t 97), none⟩])))
def x542L3 : XCode :=
  (.seq (.seq (.region [2, 5, 8, 108] [⟨(some 104), .mv (.t 8), none⟩,
    ⟨(some 105), .fieldA 7 (.t 2), none⟩,
    ⟨(some 106), .load none (.t 105), none⟩,
    ⟨(some 107), .len (.t 106), none⟩,
    ⟨(some 108), .bin .lss (.t 104) (.t 107), none⟩])
  (.cond (.t 108)
    .skip
    (.exit 4)))
  (.seq (.block 5 (.seq (.region [2, 5, 8, 9] [⟨(some 111), .fieldA 7 (.t 2), none⟩,
    ⟨(some 112), .load none (.t 111), none⟩,
    ⟨(some 113), .mv (.t 8), none⟩,
    ⟨(some 114), .idxA 4 (.t 112) (.t 113), none⟩,
    ⟨(some 115), .load (some 4) (.t 114), none⟩,
    ⟨(some 9), .alloc [(.int .i64 0), (.int .i64 0), (.int .i64 0), (.int .i64 0)], none⟩,
    ⟨none, .store 4 (.t 9) (.t 115), none⟩])
  (.seq (.region [2, 5, 8, 148] [⟨(some 116), .fieldA 0 (.t 9), none⟩,
    ⟨(some 117), .load none (.t 116), none⟩,
    ⟨(some 118), .bin .lss (.t 117) (.c (.int .i64 0)), none⟩,
    ⟨(some 119), .mv (.t 118), none⟩,
    ⟨(some 120), .fieldA 0 (.t 9), some (119, false)⟩,
    ⟨(some 121), .load none (.t 120), some (119, false)⟩,
    ⟨(some 122), .fieldA 1 (.t 9), some (119, false)⟩,
    ⟨(some 123), .load none (.t 122), some (119, false)⟩,
    ⟨(some 124), .bin .geq (.t 121) (.t 123), some (119, false)⟩,
    ⟨(some 125), .pick (.t 119) (.c (.bool true)) (.t 124), none⟩,
    ⟨(some 126), .mv (.t 125), none⟩,
    ⟨(some 127), .fieldA 1 (.t 9), some (126, false)⟩,
    ⟨(some 128), .load none (.t 127), some (126, false)⟩,
    ⟨(some 129), .fieldA 2 (.t 9), some (126, false)⟩,
    ⟨(some 130), .load none (.t 129), some (126, false)⟩,
    ⟨(some 131), .bin .gtr (.t 128) (.t 130), some (126, false)⟩,
    ⟨(some 132), .pick (.t 126) (.c (.bool true)) (.t 131), none⟩,
    ⟨(some 133), .mv (.t 132), none⟩,
    ⟨(some 134), .fieldA 2 (.t 9), some (133, false)⟩,
    ⟨(some 135), .load none (.t 134), some (133, false)⟩,
    ⟨(some 136), .mv (.t 5), some (133, false)⟩,
    ⟨(some 137), .bin .geq (.t 135) (.t 136), some (133, false)⟩,
    ⟨(some 138), .pick (.t 133) (.c (.bool true)) (.t 137), none⟩,
    ⟨(some 139), .mv (.t 138), none⟩,
    ⟨(some 140), .fieldA 3 (.t 9), some (139, false)⟩,
    ⟨(some 141), .load none (.t 140), some (139, false)⟩,
    ⟨(some 142), .bin .lss (.t 141) (.c (.int .i64 0)), some (139, false)⟩,
    ⟨(some 143), .pick (.t 139) (.c (.bool true)) (.t 142), none⟩,
    ⟨(some 144), .mv (.t 143), none⟩,
    ⟨(some 145), .fieldA 3 (.t 9), some (144, false)⟩,
    ⟨(some 146), .load none (.t 145), some (144, false)⟩,
    ⟨(some 147), .bin .geq (.t 146) (.c (.int .i64 256)), some (144, false)⟩,
    ⟨(some 148), .pick (.t 144) (.c (.bool true)) (.t 147), none⟩])
  (.cond (.t 148)
    (.seq (.region [4] [⟨(some 4), .mv (.c (.bool false)), none⟩])
    .ret)
    .skip))))
  (.region [2, 5, 8] [⟨(some 109), .mv (.t 8), none⟩,
    ⟨(some 110), .bin .add (.t 109) (.c (.int .i64 1)), none⟩,
    ⟨(some 8), .mv (.t 110), none⟩])))
/-- gearbox/gearboxref09.head · 2 parameters, 0 captured -/
def x542 : XFun := ⟨[.tmp 4],
  (.seq (.region [1, 2] [⟨(some 2), .box 8 (.t 0), none⟩,
    ⟨(some 4), .mv (.c (.bool false)), none⟩])
  (.seq (.region [1, 2, 5] [⟨(some 10), .fieldA 5 (.t 2), none⟩,
    ⟨(some 11), .load none (.t 10), none⟩,
    ⟨(some 12), .len (.t 11), none⟩,
    ⟨(some 5), .mv (.t 12), none⟩])
  (.seq (.seq (.region [2, 5, 47] [⟨(some 13), .fieldA 0 (.t 2), none⟩,
    ⟨(some 14), .load none (.t 13), none⟩,
    ⟨(some 15), .lenS (.t 14), none⟩,
    ⟨(some 16), .bin .gtr (.t 15) (.c (.int .i64 4096)), none⟩,
    ⟨(some 17), .mv (.t 16), none⟩,
    ⟨(some 18), .fieldA 1 (.t 2), some (17, false)⟩,
    ⟨(some 19), .load none (.t 18), some (17, false)⟩,
    ⟨(some 20), .bin .lss (.t 19) (.c (.int .i64 0)), some (17, false)⟩,
    ⟨(some 21), .pick (.t 17) (.c (.bool true)) (.t 20), none⟩,
    ⟨(some 22), .mv (.t 21), none⟩,
    ⟨(some 23), .fieldA 1 (.t 2), some (22, false)⟩,
    ⟨(some 24), .load none (.t 23), some (22, false)⟩,
    ⟨(some 25), .fieldA 2 (.t 2), some (22, false)⟩,
    ⟨(some 26), .load none (.t 25), some (22, false)⟩,
    ⟨(some 27), .bin .gtr (.t 24) (.t 26), some (22, false)⟩,
    ⟨(some 28), .pick (.t 22) (.c (.bool true)) (.t 27), none⟩,
    ⟨(some 29), .mv (.t 28), none⟩,
    ⟨(some 30), .fieldA 2 (.t 2), some (29, false)⟩,
    ⟨(some 31), .load none (.t 30), some (29, false)⟩,
    ⟨(some 32), .bin .gtr (.t 31) (.c (.int .i64 64)), some (29, false)⟩,
    ⟨(some 33), .pick (.t 29) (.c (.bool true)) (.t 32), none⟩,
    ⟨(some 34), .mv (.t 33), none⟩,
    ⟨(some 35), .mv (.t 1), some (34, false)⟩,
    ⟨(some 36), .mv (.t 35), some (34, false)⟩,
    ⟨(some 37), .fieldA 1 (.t 2), some (36, true)⟩,
    ⟨(some 38), .load none (.t 37), some (36, true)⟩,
    ⟨(some 39), .bin .gtr (.t 38) (.c (.int .i64 0)), some (36, true)⟩,
    ⟨(some 40), .mv (.t 39), some (36, true)⟩,
    ⟨(some 41), .fieldA 3 (.t 2), some (40, false)⟩,
    ⟨(some 42), .load none (.t 41), some (40, false)⟩,
    ⟨(some 43), .len (.t 42), some (40, false)⟩,
    ⟨(some 44), .bin .gtr (.t 43) (.c (.int .i64 0)), some (40, false)⟩,
    ⟨(some 45), .pick (.t 40) (.c (.bool true)) (.t 44), some (36, true)⟩,
    ⟨(some 46), .pick (.t 36) (.t 45) (.c (.bool false)), some (34, false)⟩,
    ⟨(some 47), .pick (.t 34) (.c (.bool true)) (.t 46), none⟩])
  (.cond (.t 47)
    (.seq (.region [4] [⟨(some 4), .mv (.c (.bool false)), none⟩])
    .ret)
    .skip))
  (.seq (.seq (.region [2, 5, 78] [⟨(some 48), .fieldA 3 (.t 2), none⟩,
    ⟨(some 49), .load none (.t 48), none⟩,
    ⟨(some 50), .len (.t 49), none⟩,
    ⟨(some 51), .bin .gtr (.t 50) (.c (.int .i64 4096)), none⟩,
    ⟨(some 52), .mv (.t 51), none⟩,
    ⟨(some 53), .fieldA 4 (.t 2), some (52, false)⟩,
    ⟨(some 54), .load none (.t 53), some (52, false)⟩,
    ⟨(some 55), .len (.t 54), some (52, false)⟩,
    ⟨(some 56), .bin .gtr (.t 55) (.c (.int .i64 16384)), some (52, false)⟩,
    ⟨(some 57), .pick (.t 52) (.c (.bool true)) (.t 56), none⟩,
    ⟨(some 58), .mv (.t 57), none⟩,
    ⟨(some 59), .fieldA 7 (.t 2), some (58, false)⟩,
    ⟨(some 60), .load none (.t 59), some (58, false)⟩,
    ⟨(some 61), .len (.t 60), some (58, false)⟩,
    ⟨(some 62), .bin .gtr (.t 61) (.c (.int .i64 16384)), some (58, false)⟩,
    ⟨(some 63), .pick (.t 58) (.c (.bool true)) (.t 62), none⟩,
    ⟨(some 64), .mv (.t 63), none⟩,
    ⟨(some 65), .mv (.t 5), some (64, false)⟩,
    ⟨(some 66), .bin .lss (.t 65) (.c (.int .i64 1)), some (64, false)⟩,
    ⟨(some 67), .pick (.t 64) (.c (.bool true)) (.t 66), none⟩,
    ⟨(some 68), .mv (.t 67), none⟩,
    ⟨(some 69), .mv (.t 5), some (68, false)⟩,
    ⟨(some 70), .bin .gtr (.t 69) (.c (.int .i64 16384)), some (68, false)⟩,
    ⟨(some 71), .pick (.t 68) (.c (.bool true)) (.t 70), none⟩,
    ⟨(some 72), .mv (.t 71), none⟩,
    ⟨(some 73), .fieldA 6 (.t 2), some (72, false)⟩,
    ⟨(some 74), .load none (.t 73), some (72, false)⟩,
    ⟨(some 75), .len (.t 74), some (72, false)⟩,
    ⟨(some 76), .mv (.t 5), some (72, false)⟩,
    ⟨(some 77), .bin .neq (.t 75) (.t 76), some (72, false)⟩,
    ⟨(some 78), .pick (.t 72) (.c (.bool true)) (.t 77), none⟩])
  (.cond (.t 78)
    (.seq (.region [4] [⟨(some 4), .mv (.c (.bool false)), none⟩])
    .ret)
    .skip))
  (.seq (.seq (.region [2, 5, 6] [⟨(some 6), .mv (.c (.int .i64 0)), none⟩])
  (.block 0 (.loop [2, 5, 6] x542L1)))
  (.seq (.seq (.region [2, 5, 7] [⟨(some 7), .mv (.c (.int .i64 0)), none⟩])
  (.block 2 (.loop [2, 5, 7] x542L2)))
  (.seq (.seq (.region [2, 5, 8] [⟨(some 8), .mv (.c (.int .i64 0)), none⟩])
  (.block 4 (.loop [2, 5, 8] x542L3)))
  (.seq (.region [4] [⟨(some 4), .mv (.c (.bool true)), none⟩])
  .ret))))))))⟩

def x538L1 : XCode :=
  (.seq (.seq (.region [0, 1, 2, 7, 8, 18] [⟨(some 14), .mv (.t 8), none⟩,
    ⟨(some 15), .fieldA 5 (.t 7), none⟩,
    ⟨(some 16), .load none (.t 15), none⟩,
    ⟨(some 17), .len (.t 16), none⟩,
    ⟨(some 18), .bin .lss (.t 14) (.t 17), none⟩])
  (.cond (.t 18)
    .skip
    (.exit 0)))
  (.seq (.block 1 (.seq (.region [0, 1, 2, 7, 8, 9] [⟨(some 21), .fieldA 5 (.t 7), none⟩,
    ⟨(some 22), .load none (.t 21), none⟩,
    ⟨(some 23), .mv (.t 8), none⟩,
    ⟨(some 24), .idxA 2 (.t 22) (.t 23), none⟩,
    ⟨(some 25), .load (some 2) (.t 24), none⟩,
    ⟨(some 9), .alloc [(.int .u8 0), (.int .i64 0)], none⟩,
    ⟨none, .store 2 (.t 9) (.t 25), none⟩])
  (.seq (.seq (.region [0, 1, 2, 7, 8, 9, 44] [⟨(some 26), .mv (.t 0), none⟩,
    ⟨(some 27), .load (some 8) (.t 7), none⟩,
    ⟨(some 28), .mv (.t 8), none⟩,
    ⟨(some 29), .call .view 543 [(.t 26), (.t 27), (.t 28)], none⟩,
    ⟨(some 30), .un .not (.t 29), none⟩,
    ⟨(some 31), .mv (.t 30), none⟩,
    ⟨(some 32), .mv (.t 8), some (31, false)⟩,
    ⟨(some 33), .fieldA 5 (.t 7), some (31, false)⟩,
    ⟨(some 34), .load none (.t 33), some (31, false)⟩,
    ⟨(some 35), .len (.t 34), some (31, false)⟩,
    ⟨(some 36), .bin .sub (.t 35) (.c (.int .i64 1)), some (31, false)⟩,
    ⟨(some 37), .bin .eql (.t 32) (.t 36), some (31, false)⟩,
    ⟨(some 38), .mv (.t 37), some (31, false)⟩,
    ⟨(some 39), .fieldA 0 (.t 9), some (38, true)⟩,
    ⟨(some 40), .load none (.t 39), some (38, true)⟩,
    ⟨(some 41), .call .view 541 [(.t 40)], some (38, true)⟩,
    ⟨(some 42), .un .not (.t 41), some (38, true)⟩,
    ⟨(some 43), .pick (.t 38) (.t 42) (.c (.bool false)), some (31, false)⟩,
    ⟨(some 44), .pick (.t 31) (.c (.bool true)) (.t 43), none⟩])
  (.cond (.t 44)
    (.seq (.region [6] [⟨(some 45), .mv (.t 8), none⟩,
      ⟨(some 6), .mv (.t 45), none⟩])
    .ret)
    .skip))
  (.seq (.region [0, 1, 2, 7, 8, 9, 48] [⟨(some 46), .fieldA 0 (.t 9), none⟩,
    ⟨(some 47), .load none (.t 46), none⟩,
    ⟨(some 48), .bin .eql (.t 47) (.c (.int .u8 26)), none⟩])
  (.cond (.t 48)
    (.seq (.seq (.region [0, 1, 2, 7, 8, 9, 73] [⟨(some 49), .mv (.t 2), none⟩,
      ⟨(some 50), .fieldA 1 (.t 9), none⟩,
      ⟨(some 51), .load none (.t 50), none⟩,
      ⟨(some 52), .idxA 1 (.t 49) (.t 51), none⟩,
      ⟨(some 53), .load none (.t 52), none⟩,
      ⟨(some 54), .bin .geq (.t 53) (.c (.int .i64 0)), none⟩,
      ⟨(some 55), .mv (.t 54), none⟩,
      ⟨(some 56), .mv (.t 2), some (55, true)⟩,
      ⟨(some 57), .fieldA 1 (.t 9), some (55, true)⟩,
      ⟨(some 58), .load none (.t 57), some (55, true)⟩,
      ⟨(some 59), .idxA 1 (.t 56) (.t 58), some (55, true)⟩,
      ⟨(some 60), .load none (.t 59), some (55, true)⟩,
      ⟨(some 61), .mv (.t 1), some (55, true)⟩,
      ⟨(some 62), .bin .neq (.t 60) (.t 61), some (55, true)⟩,
      ⟨(some 63), .pick (.t 55) (.t 62) (.c (.bool false)), none⟩,
      ⟨(some 64), .mv (.t 63), none⟩,
      ⟨(some 65), .load (some 8) (.t 7), some (64, false)⟩,
      ⟨(some 66), .mv (.t 0), some (64, false)⟩,
      ⟨(some 67), .fieldA 1 (.t 9), some (64, false)⟩,
      ⟨(some 68), .load none (.t 67), some (64, false)⟩,
      ⟨(some 69), .idxA 8 (.t 66) (.t 68), some (64, false)⟩,
      ⟨(some 70), .load (some 8) (.t 69), some (64, false)⟩,
      ⟨(some 71), .call .view 537 [(.t 65), (.t 70)], some (64, false)⟩,
      ⟨(some 72), .un .not (.t 71), some (64, false)⟩,
      ⟨(some 73), .pick (.t 64) (.c (.bool true)) (.t 72), none⟩])
    (.cond (.t 73)
      (.seq (.region [6] [⟨(some 74), .mv (.t 8), none⟩,
        ⟨(some 6), .mv (.t 74), none⟩])
      .ret)
      .skip))
    (.region [0, 1, 2, 7, 8] [⟨(some 75), .mv (.t 2), none⟩,
      ⟨(some 76), .fieldA 1 (.t 9), none⟩,
      ⟨(some 77), .load none (.t 76), none⟩,
      ⟨(some 78), .mv (.t 1), none⟩,
      ⟨(some 79), .idxA 1 (.t 75) (.t 77), none⟩,
      ⟨none, .store 1 (.t 79) (.t 78), none⟩]))
    .skip)))))
  (.region [0, 1, 2, 7, 8] [⟨(some 19), .mv (.t 8), none⟩,
    ⟨(some 20), .bin .add (.t 19) (.c (.int .i64 1)), none⟩,
    ⟨(some 8), .mv (.t 20), none⟩])))
/-- gearbox/gearboxref09.code · 3 parameters, 0 captured -/
def x538 : XFun := ⟨[.tmp 6],
  (.seq (.region [0, 1, 2] [⟨(some 6), .mv (.c (.int .i64 0)), none⟩])
  (.seq (.region [0, 1, 2, 7] [⟨(some 10), .mv (.t 0), none⟩,
    ⟨(some 11), .mv (.t 1), none⟩,
    ⟨(some 12), .idxA 8 (.t 10) (.t 11), none⟩,
    ⟨(some 13), .load (some 8) (.t 12), none⟩,
    ⟨(some 7), .alloc [(.string .empty), (.int .i64 0), (.int .i64 0), (.slice none 0 0), (.slice none 0 0), (.slice none 0 0), (.slice none 0 0), (.slice none 0 0)], none⟩,
    ⟨none, .store 8 (.t 7) (.t 13), none⟩])
  (.seq (.seq (.region [0, 1, 2, 7, 8] [⟨(some 8), .mv (.c (.int .i64 0)), none⟩])
  (.block 0 (.loop [0, 1, 2, 7, 8] x538L1)))
  (.seq (.region [6] [⟨(some 6), .mv (.c (.int .i64 (-1))), none⟩])
  .ret))))⟩

def x540L1 : XCode :=
  (.seq (.seq (.region [1, 4, 5, 6, 7, 28] [⟨(some 26), .mv (.t 7), none⟩,
    ⟨(some 27), .mv (.t 4), none⟩,
    ⟨(some 28), .bin .lss (.t 26) (.t 27), none⟩])
  (.cond (.t 28)
    .skip
    (.exit 0)))
  (.seq (.block 1 (.region [1, 4, 5, 6, 7] [⟨(some 31), .mv (.t 5), none⟩,
    ⟨(some 32), .mv (.t 5), none⟩,
    ⟨(some 33), .nilCheck (.t 32), none⟩,
    ⟨(some 34), .fieldA 0 (.t 33), none⟩,
    ⟨(some 35), .load none (.t 34), none⟩,
    ⟨(some 36), .buildSlice 1 [(.int .i64 0)] 1 [(0, 1, (.c (.int .i64 (-1))))], none⟩,
    ⟨(some 37), .append 1 8 (.t 35) (.t 36), none⟩,
    ⟨(some 38), .nilCheck (.t 31), none⟩,
    ⟨(some 39), .fieldA 0 (.t 38), none⟩,
    ⟨none, .store 1 (.t 39) (.t 37), none⟩]))
  (.region [1, 4, 5, 6, 7] [⟨(some 29), .mv (.t 7), none⟩,
    ⟨(some 30), .bin .add (.t 29) (.c (.int .i64 1)), none⟩,
    ⟨(some 7), .mv (.t 30), none⟩])))
def x540L2 : XCode :=
  (.seq (.seq (.region [1, 4, 5, 6, 8, 9, 10, 11, 12, 112] [⟨(some 108), .mv (.t 12), none⟩,
    ⟨(some 109), .fieldA 7 (.t 1), none⟩,
    ⟨(some 110), .load none (.t 109), none⟩,
    ⟨(some 111), .len (.t 110), none⟩,
    ⟨(some 112), .bin .lss (.t 108) (.t 111), none⟩])
  (.cond (.t 112)
    .skip
    (.exit 4)))
  (.seq (.block 5 (.seq (.region [1, 4, 5, 6, 8, 9, 10, 11, 12, 13] [⟨(some 115), .fieldA 7 (.t 1), none⟩,
    ⟨(some 116), .load none (.t 115), none⟩,
    ⟨(some 117), .mv (.t 12), none⟩,
    ⟨(some 118), .idxA 4 (.t 116) (.t 117), none⟩,
    ⟨(some 119), .load (some 4) (.t 118), none⟩,
    ⟨(some 13), .alloc [(.int .i64 0), (.int .i64 0), (.int .i64 0), (.int .i64 0)], none⟩,
    ⟨none, .store 4 (.t 13) (.t 119), none⟩])
  (.seq (.region [1, 4, 5, 6, 8, 9, 10, 11, 12, 137] [⟨(some 120), .mv (.t 8), none⟩,
    ⟨(some 121), .fieldA 0 (.t 13), none⟩,
    ⟨(some 122), .load none (.t 121), none⟩,
    ⟨(some 123), .bin .geq (.t 120) (.t 122), none⟩,
    ⟨(some 124), .mv (.t 123), none⟩,
    ⟨(some 125), .mv (.t 8), some (124, true)⟩,
    ⟨(some 126), .fieldA 1 (.t 13), some (124, true)⟩,
    ⟨(some 127), .load none (.t 126), some (124, true)⟩,
    ⟨(some 128), .bin .lss (.t 125) (.t 127), some (124, true)⟩,
    ⟨(some 129), .pick (.t 124) (.t 128) (.c (.bool false)), none⟩,
    ⟨(some 130), .mv (.t 129), none⟩,
    ⟨(some 131), .fieldA 3 (.t 13), some (130, true)⟩,
    ⟨(some 132), .load none (.t 131), some (130, true)⟩,
    ⟨(some 133), .mv (.t 9), some (130, true)⟩,
    ⟨(some 134), .mv (.t 10), some (130, true)⟩,
    ⟨(some 135), .bin .sub (.t 133) (.t 134), some (130, true)⟩,
    ⟨(some 136), .bin .gtr (.t 132) (.t 135), some (130, true)⟩,
    ⟨(some 137), .pick (.t 130) (.t 136) (.c (.bool false)), none⟩])
  (.cond (.t 137)
    (.seq (.region [2, 3] [⟨(some 138), .mv (.t 8), none⟩,
      ⟨(some 2), .mv (.c (.slice none 0 0)), none⟩,
      ⟨(some 3), .mv (.t 138), none⟩])
    .ret)
    .skip))))
  (.region [1, 4, 5, 6, 8, 9, 10, 11, 12] [⟨(some 113), .mv (.t 12), none⟩,
    ⟨(some 114), .bin .add (.t 113) (.c (.int .i64 1)), none⟩,
    ⟨(some 12), .mv (.t 114), none⟩])))
def x540L3 : XCode :=
  (.seq (.seq (.region [1, 4, 5, 6, 8, 9, 10, 11, 14, 143] [⟨(some 139), .mv (.t 14), none⟩,
    ⟨(some 140), .fieldA 7 (.t 1), none⟩,
    ⟨(some 141), .load none (.t 140), none⟩,
    ⟨(some 142), .len (.t 141), none⟩,
    ⟨(some 143), .bin .lss (.t 139) (.t 142), none⟩])
  (.cond (.t 143)
    .skip
    (.exit 6)))
  (.seq (.block 7 (.seq (.region [1, 4, 5, 6, 8, 9, 10, 11, 14, 15] [⟨(some 146), .fieldA 7 (.t 1), none⟩,
    ⟨(some 147), .load none (.t 146), none⟩,
    ⟨(some 148), .mv (.t 14), none⟩,
    ⟨(some 149), .idxA 4 (.t 147) (.t 148), none⟩,
    ⟨(some 150), .load (some 4) (.t 149), none⟩,
    ⟨(some 15), .alloc [(.int .i64 0), (.int .i64 0), (.int .i64 0), (.int .i64 0)], none⟩,
    ⟨none, .store 4 (.t 15) (.t 150), none⟩])
  (.seq (.region [1, 4, 5, 6, 8, 9, 10, 11, 14, 15, 160] [⟨(some 151), .mv (.t 8), none⟩,
    ⟨(some 152), .fieldA 0 (.t 15), none⟩,
    ⟨(some 153), .load none (.t 152), none⟩,
    ⟨(some 154), .bin .geq (.t 151) (.t 153), none⟩,
    ⟨(some 155), .mv (.t 154), none⟩,
    ⟨(some 156), .mv (.t 8), some (155, true)⟩,
    ⟨(some 157), .fieldA 1 (.t 15), some (155, true)⟩,
    ⟨(some 158), .load none (.t 157), some (155, true)⟩,
    ⟨(some 159), .bin .lss (.t 156) (.t 158), some (155, true)⟩,
    ⟨(some 160), .pick (.t 155) (.t 159) (.c (.bool false)), none⟩])
  (.cond (.t 160)
    (.region [1, 4, 5, 6, 8, 9, 10, 11, 14] [⟨(some 161), .mv (.t 5), none⟩,
      ⟨(some 162), .fieldA 2 (.t 15), none⟩,
      ⟨(some 163), .load none (.t 162), none⟩,
      ⟨(some 164), .fieldA 3 (.t 15), none⟩,
      ⟨(some 165), .load none (.t 164), none⟩,
      ⟨(some 166), .bin .add (.t 165) (.c (.int .i64 1)), none⟩,
      ⟨(some 167), .call .share 145 [(.t 161), (.t 163), (.t 166)], none⟩])
    .skip))))
  (.region [1, 4, 5, 6, 8, 9, 10, 11, 14] [⟨(some 144), .mv (.t 14), none⟩,
    ⟨(some 145), .bin .add (.t 144) (.c (.int .i64 1)), none⟩,
    ⟨(some 14), .mv (.t 145), none⟩])))
def x540L4 : XCode :=
  (.seq (.seq (.region [1, 4, 5, 6, 8, 9, 10, 11, 16, 17, 174] [⟨(some 171), .mv (.t 17), none⟩,
    ⟨(some 172), .mv (.t 16), none⟩,
    ⟨(some 173), .len (.t 172), none⟩,
    ⟨(some 174), .bin .lss (.t 171) (.t 173), none⟩])
  (.cond (.t 174)
    .skip
    (.exit 8)))
  (.seq (.block 9 (.region [1, 4, 5, 6, 8, 9, 10, 11, 16, 17] [⟨(some 177), .mv (.t 5), none⟩,
    ⟨(some 178), .mv (.t 16), none⟩,
    ⟨(some 179), .mv (.t 17), none⟩,
    ⟨(some 180), .idxA 1 (.t 178) (.t 179), none⟩,
    ⟨(some 181), .load none (.t 180), none⟩,
    ⟨(some 182), .mv (.t 9), none⟩,
    ⟨(some 183), .mv (.t 10), none⟩,
    ⟨(some 184), .bin .sub (.t 182) (.t 183), none⟩,
    ⟨(some 185), .mv (.t 11), none⟩,
    ⟨(some 186), .bin .add (.t 184) (.t 185), none⟩,
    ⟨(some 187), .call .share 145 [(.t 177), (.t 181), (.t 186)], none⟩]))
  (.region [1, 4, 5, 6, 8, 9, 10, 11, 16, 17] [⟨(some 175), .mv (.t 17), none⟩,
    ⟨(some 176), .bin .add (.t 175) (.c (.int .i64 1)), none⟩,
    ⟨(some 17), .mv (.t 176), none⟩])))
def x540L5 : XCode :=
  (.seq (.seq (.region [1, 4, 5, 6, 8, 16, 18, 196] [⟨(some 193), .mv (.t 18), none⟩,
    ⟨(some 194), .mv (.t 16), none⟩,
    ⟨(some 195), .len (.t 194), none⟩,
    ⟨(some 196), .bin .lss (.t 193) (.t 195), none⟩])
  (.cond (.t 196)
    .skip
    (.exit 10)))
  (.seq (.block 11 (.region [1, 4, 5, 6, 8, 16, 18] [⟨(some 199), .mv (.t 8), none⟩,
    ⟨(some 200), .mv (.t 16), none⟩,
    ⟨(some 201), .mv (.t 18), none⟩,
    ⟨(some 202), .idxA 1 (.t 200) (.t 201), none⟩,
    ⟨(some 203), .load none (.t 202), none⟩,
    ⟨(some 204), .minmax true (.t 199) (.t 203), none⟩,
    ⟨(some 8), .mv (.t 204), none⟩]))
  (.region [1, 4, 5, 6, 8, 16, 18] [⟨(some 197), .mv (.t 18), none⟩,
    ⟨(some 198), .bin .add (.t 197) (.c (.int .i64 1)), none⟩,
    ⟨(some 18), .mv (.t 198), none⟩])))
def x540L6 : XCode :=
  (.seq (.seq (.region [1, 4, 5, 6, 8, 47] [⟨(some 45), .mv (.t 8), none⟩,
    ⟨(some 46), .mv (.t 4), none⟩,
    ⟨(some 47), .bin .lss (.t 45) (.t 46), none⟩])
  (.cond (.t 47)
    .skip
    (.exit 2)))
  (.block 3 (.seq (.seq (.region [1, 4, 5, 6, 8, 61] [⟨(some 48), .mv (.t 6), none⟩,
    ⟨(some 49), .mv (.t 8), none⟩,
    ⟨(some 50), .idxA 1 (.t 48) (.t 49), none⟩,
    ⟨(some 51), .load none (.t 50), none⟩,
    ⟨(some 52), .mv (.t 51), none⟩,
    ⟨(some 53), .mv (.t 5), some (52, false)⟩,
    ⟨(some 54), .nilCheck (.t 53), some (52, false)⟩,
    ⟨(some 55), .fieldA 0 (.t 54), some (52, false)⟩,
    ⟨(some 56), .load none (.t 55), some (52, false)⟩,
    ⟨(some 57), .mv (.t 8), some (52, false)⟩,
    ⟨(some 58), .idxA 1 (.t 56) (.t 57), some (52, false)⟩,
    ⟨(some 59), .load none (.t 58), some (52, false)⟩,
    ⟨(some 60), .bin .lss (.t 59) (.c (.int .i64 0)), some (52, false)⟩,
    ⟨(some 61), .pick (.t 52) (.c (.bool true)) (.t 60), none⟩])
  (.cond (.t 61)
    (.seq (.region [1, 4, 5, 6, 8] [⟨(some 62), .mv (.t 8), none⟩,
      ⟨(some 63), .bin .add (.t 62) (.c (.int .i64 1)), none⟩,
      ⟨(some 8), .mv (.t 63), none⟩])
    (.exit 3))
    .skip))
  (.seq (.region [1, 4, 5, 6, 8] [⟨(some 64), .mv (.t 6), none⟩,
    ⟨(some 65), .mv (.t 8), none⟩,
    ⟨(some 66), .idxA 1 (.t 64) (.t 65), none⟩,
    ⟨none, .store 1 (.t 66) (.c (.bool true)), none⟩])
  (.seq (.region [1, 4, 5, 6, 8, 9] [⟨(some 67), .mv (.t 5), none⟩,
    ⟨(some 68), .nilCheck (.t 67), none⟩,
    ⟨(some 69), .fieldA 0 (.t 68), none⟩,
    ⟨(some 70), .load none (.t 69), none⟩,
    ⟨(some 71), .mv (.t 8), none⟩,
    ⟨(some 72), .idxA 1 (.t 70) (.t 71), none⟩,
    ⟨(some 73), .load none (.t 72), none⟩,
    ⟨(some 9), .mv (.t 73), none⟩])
  (.seq (.region [1, 4, 5, 6, 8, 9, 10, 11] [⟨(some 75), .fieldA 5 (.t 1), none⟩,
    ⟨(some 76), .load none (.t 75), none⟩,
    ⟨(some 77), .mv (.t 8), none⟩,
    ⟨(some 78), .idxA 2 (.t 76) (.t 77), none⟩,
    ⟨(some 79), .load (some 2) (.t 78), none⟩,
    ⟨(some 80), .call .view 536 [(.t 79)], none⟩,
    ⟨(some 74), .mv (.t 80), none⟩,
    ⟨(some 81), .extract (.t 74) 0, none⟩,
    ⟨(some 82), .extract (.t 74) 1, none⟩,
    ⟨(some 10), .mv (.t 81), none⟩,
    ⟨(some 11), .mv (.t 82), none⟩])
  (.seq (.seq (.region [1, 4, 5, 6, 8, 9, 10, 11, 106] [⟨(some 83), .mv (.t 10), none⟩,
    ⟨(some 84), .mv (.t 9), none⟩,
    ⟨(some 85), .bin .gtr (.t 83) (.t 84), none⟩,
    ⟨(some 86), .mv (.t 85), none⟩,
    ⟨(some 87), .mv (.t 9), some (86, false)⟩,
    ⟨(some 88), .mv (.t 10), some (86, false)⟩,
    ⟨(some 89), .bin .sub (.t 87) (.t 88), some (86, false)⟩,
    ⟨(some 90), .mv (.t 11), some (86, false)⟩,
    ⟨(some 91), .bin .add (.t 89) (.t 90), some (86, false)⟩,
    ⟨(some 92), .bin .gtr (.t 91) (.c (.int .i64 256)), some (86, false)⟩,
    ⟨(some 93), .pick (.t 86) (.c (.bool true)) (.t 92), none⟩,
    ⟨(some 94), .mv (.t 93), none⟩,
    ⟨(some 95), .fieldA 5 (.t 1), some (94, false)⟩,
    ⟨(some 96), .load none (.t 95), some (94, false)⟩,
    ⟨(some 97), .mv (.t 8), some (94, false)⟩,
    ⟨(some 98), .idxA 2 (.t 96) (.t 97), some (94, false)⟩,
    ⟨(some 99), .fieldA 0 (.t 98), some (94, false)⟩,
    ⟨(some 100), .load none (.t 99), some (94, false)⟩,
    ⟨(some 101), .bin .eql (.t 100) (.c (.int .u8 21)), some (94, false)⟩,
    ⟨(some 102), .mv (.t 101), some (94, false)⟩,
    ⟨(some 103), .mv (.t 9), some (102, true)⟩,
    ⟨(some 104), .bin .neq (.t 103) (.c (.int .i64 0)), some (102, true)⟩,
    ⟨(some 105), .pick (.t 102) (.t 104) (.c (.bool false)), some (94, false)⟩,
    ⟨(some 106), .pick (.t 94) (.c (.bool true)) (.t 105), none⟩])
  (.cond (.t 106)
    (.seq (.region [2, 3] [⟨(some 107), .mv (.t 8), none⟩,
      ⟨(some 2), .mv (.c (.slice none 0 0)), none⟩,
      ⟨(some 3), .mv (.t 107), none⟩])
    .ret)
    .skip))
  (.seq (.seq (.region [1, 4, 5, 6, 8, 9, 10, 11, 12] [⟨(some 12), .mv (.c (.int .i64 0)), none⟩])
  (.block 4 (.loop [1, 4, 5, 6, 8, 9, 10, 11, 12] x540L2)))
  (.seq (.seq (.region [1, 4, 5, 6, 8, 9, 10, 11, 14] [⟨(some 14), .mv (.c (.int .i64 0)), none⟩])
  (.block 6 (.loop [1, 4, 5, 6, 8, 9, 10, 11, 14] x540L3)))
  (.seq (.region [1, 4, 5, 6, 8, 9, 10, 11, 16] [⟨(some 168), .load (some 8) (.t 1), none⟩,
    ⟨(some 169), .mv (.t 8), none⟩,
    ⟨(some 170), .call .view 535 [(.t 168), (.t 169)], none⟩,
    ⟨(some 16), .mv (.t 170), none⟩])
  (.seq (.seq (.region [1, 4, 5, 6, 8, 9, 10, 11, 16, 17] [⟨(some 17), .mv (.c (.int .i64 0)), none⟩])
  (.block 8 (.loop [1, 4, 5, 6, 8, 9, 10, 11, 16, 17] x540L4)))
  (.seq (.seq (.region [1, 4, 5, 6, 8, 16, 191] [⟨(some 188), .mv (.t 5), none⟩,
    ⟨(some 189), .nilCheck (.t 188), none⟩,
    ⟨(some 190), .fieldA 1 (.t 189), none⟩,
    ⟨(some 191), .load none (.t 190), none⟩])
  (.cond (.t 191)
    (.seq (.region [2, 3] [⟨(some 192), .mv (.t 8), none⟩,
      ⟨(some 2), .mv (.c (.slice none 0 0)), none⟩,
      ⟨(some 3), .mv (.t 192), none⟩])
    .ret)
    .skip))
  (.seq (.region [1, 4, 5, 6, 8, 16, 18] [⟨(some 18), .mv (.c (.int .i64 0)), none⟩])
  (.block 10 (.loop [1, 4, 5, 6, 8, 16, 18] x540L5)))))))))))))))
/-- gearbox/gearboxref09.depths · 1 parameters, 0 captured -/
def x540 : XFun := ⟨[.tmp 2, .tmp 3],
  (.seq (.region [1] [⟨(some 1), .box 8 (.t 0), none⟩,
    ⟨(some 2), .mv (.c (.slice none 0 0)), none⟩,
    ⟨(some 3), .mv (.c (.int .i64 0)), none⟩])
  (.seq (.region [1, 4] [⟨(some 19), .fieldA 5 (.t 1), none⟩,
    ⟨(some 20), .load none (.t 19), none⟩,
    ⟨(some 21), .len (.t 20), none⟩,
    ⟨(some 4), .mv (.t 21), none⟩])
  (.seq (.region [1, 4, 5] [⟨(some 22), .build [(.slice none 0 0), (.bool false)] [], none⟩,
    ⟨(some 23), .box 2 (.t 22), none⟩,
    ⟨(some 5), .mv (.t 23), none⟩])
  (.seq (.region [1, 4, 5, 6] [⟨(some 24), .mv (.t 4), none⟩,
    ⟨(some 25), .makeSlice 1 1 [(.bool false)] (.t 24) (.t 24), none⟩,
    ⟨(some 6), .mv (.t 25), none⟩])
  (.seq (.seq (.region [1, 4, 5, 6, 7] [⟨(some 7), .mv (.c (.int .i64 0)), none⟩])
  (.block 0 (.loop [1, 4, 5, 6, 7] x540L1)))
  (.seq (.region [1, 4, 5, 6] [⟨(some 40), .mv (.t 5), none⟩,
    ⟨(some 41), .nilCheck (.t 40), none⟩,
    ⟨(some 42), .fieldA 0 (.t 41), none⟩,
    ⟨(some 43), .load none (.t 42), none⟩,
    ⟨(some 44), .idxA 1 (.t 43) (.c (.int .i64 0)), none⟩,
    ⟨none, .store 1 (.t 44) (.c (.int .i64 0)), none⟩])
  (.seq (.seq (.region [1, 4, 5, 6, 8] [⟨(some 8), .mv (.c (.int .i64 0)), none⟩])
  (.block 2 (.loop [1, 4, 5, 6, 8] x540L6)))
  (.seq (.region [2, 3] [⟨(some 205), .mv (.t 5), none⟩,
    ⟨(some 206), .nilCheck (.t 205), none⟩,
    ⟨(some 207), .fieldA 0 (.t 206), none⟩,
    ⟨(some 208), .load none (.t 207), none⟩,
    ⟨(some 2), .mv (.t 208), none⟩,
    ⟨(some 3), .mv (.c (.int .i64 (-1))), none⟩])
  .ret))))))))⟩

def x325L1 : XCode :=
  (.seq (.seq (.region [0, 1, 5, 22] [⟨(some 19), .mv (.t 5), none⟩,
    ⟨(some 20), .mv (.t 1), none⟩,
    ⟨(some 21), .len (.t 20), none⟩,
    ⟨(some 22), .bin .lss (.t 19) (.t 21), none⟩])
  (.cond (.t 22)
    .skip
    (.exit 0)))
  (.seq (.block 1 (.seq (.region [0, 1, 5, 34] [⟨(some 25), .mv (.t 0), none⟩,
    ⟨(some 26), .mv (.t 5), none⟩,
    ⟨(some 27), .idxA 8 (.t 25) (.t 26), none⟩,
    ⟨(some 28), .load (some 8) (.t 27), none⟩,
    ⟨(some 29), .mv (.t 1), none⟩,
    ⟨(some 30), .mv (.t 5), none⟩,
    ⟨(some 31), .idxA 8 (.t 29) (.t 30), none⟩,
    ⟨(some 32), .load (some 8) (.t 31), none⟩,
    ⟨(some 33), .call .view 324 [(.t 28), (.t 32)], none⟩,
    ⟨(some 34), .un .not (.t 33), none⟩])
  (.cond (.t 34)
    (.seq (.region [4] [⟨(some 4), .mv (.c (.bool false)), none⟩])
    .ret)
    .skip)))
  (.region [0, 1, 5] [⟨(some 23), .mv (.t 5), none⟩,
    ⟨(some 24), .bin .add (.t 23) (.c (.int .i64 1)), none⟩,
    ⟨(some 5), .mv (.t 24), none⟩])))
/-- gearbox/gearboxlaw01.LeftFns · 2 parameters, 0 captured -/
def x325 : XFun := ⟨[.tmp 4],
  (.seq (.region [0, 1] [⟨(some 4), .mv (.c (.bool false)), none⟩])
  (.seq (.seq (.region [0, 1, 18] [⟨(some 7), .mv (.t 0), none⟩,
    ⟨(some 8), .len (.t 7), none⟩,
    ⟨(some 9), .mv (.t 1), none⟩,
    ⟨(some 10), .len (.t 9), none⟩,
    ⟨(some 11), .bin .neq (.t 8) (.t 10), none⟩,
    ⟨(some 12), .mv (.t 11), none⟩,
    ⟨(some 13), .mv (.t 0), some (12, false)⟩,
    ⟨(some 14), .cap (.t 13), some (12, false)⟩,
    ⟨(some 15), .mv (.t 1), some (12, false)⟩,
    ⟨(some 16), .len (.t 15), some (12, false)⟩,
    ⟨(some 17), .bin .leq (.t 14) (.t 16), some (12, false)⟩,
    ⟨(some 18), .pick (.t 12) (.c (.bool true)) (.t 17), none⟩])
  (.cond (.t 18)
    (.seq (.region [4] [⟨(some 4), .mv (.c (.bool false)), none⟩])
    .ret)
    .skip))
  (.seq (.seq (.region [0, 1, 5] [⟨(some 5), .mv (.c (.int .i64 0)), none⟩])
  (.block 0 (.loop [0, 1, 5] x325L1)))
  (.seq (.region [6] [⟨(some 35), .mv (.t 0), none⟩,
    ⟨(some 36), .mv (.t 1), none⟩,
    ⟨(some 37), .len (.t 36), none⟩,
    ⟨(some 38), .bin .add (.t 37) (.c (.int .i64 1)), none⟩,
    ⟨(some 39), .slice 8 (.t 35) none (some (.t 38)), none⟩,
    ⟨(some 40), .mv (.t 1), none⟩,
    ⟨(some 41), .len (.t 40), none⟩,
    ⟨(some 42), .idxA 8 (.t 39) (.t 41), none⟩,
    ⟨(some 43), .load (some 8) (.t 42), none⟩,
    ⟨(some 6), .alloc [(.string .empty), (.int .i64 0), (.int .i64 0), (.slice none 0 0), (.slice none 0 0), (.slice none 0 0), (.slice none 0 0), (.slice none 0 0)], none⟩,
    ⟨none, .store 8 (.t 6) (.t 43), none⟩])
  (.seq (.region [4] [⟨(some 44), .fieldA 0 (.t 6), none⟩,
    ⟨(some 45), .load none (.t 44), none⟩,
    ⟨(some 46), .bin .eql (.t 45) (.c (.string ⟨#[115, 112, 97, 114, 101]⟩)), none⟩,
    ⟨(some 4), .mv (.t 46), none⟩])
  .ret)))))⟩

/-- gearbox/gearboxlaw09.one · 1 parameters, 0 captured -/
def x470 : XFun := ⟨[.tmp 2],
  (.seq (.region [0] [⟨(some 2), .mv (.c (.slice none 0 0)), none⟩])
  (.seq (.region [2] [⟨(some 3), .mv (.t 0), none⟩,
    ⟨(some 4), .mv (.t 0), none⟩,
    ⟨(some 5), .len (.t 4), none⟩,
    ⟨(some 6), .makeSlice 1 8 [(.int .i64 0)] (.t 5) (.t 5), none⟩,
    ⟨(some 7), .build [(.string .empty), (.int .i64 0), (.int .i64 0), (.slice none 0 0), (.slice none 0 0), (.slice none 0 0), (.slice none 0 0), (.slice none 0 0)] [(5, 1, (.t 3)), (6, 1, (.t 6))], none⟩,
    ⟨(some 8), .buildSlice 8 [(.string .empty), (.int .i64 0), (.int .i64 0), (.slice none 0 0), (.slice none 0 0), (.slice none 0 0), (.slice none 0 0), (.slice none 0 0)] 1 [(0, 8, (.t 7))], none⟩,
    ⟨(some 2), .mv (.t 8), none⟩])
  .ret))⟩

def x350L1 : XCode :=
  (.seq (.seq (.region [0, 1, 5, 14] [⟨(some 11), .mv (.t 5), none⟩,
    ⟨(some 12), .mv (.t 0), none⟩,
    ⟨(some 13), .len (.t 12), none⟩,
    ⟨(some 14), .bin .lss (.t 11) (.t 13), none⟩])
  (.cond (.t 14)
    .skip
    (.exit 0)))
  (.seq (.block 1 (.seq (.region [0, 1, 5, 25] [⟨(some 17), .mv (.t 0), none⟩,
    ⟨(some 18), .mv (.t 5), none⟩,
    ⟨(some 19), .idxA 1 (.t 17) (.t 18), none⟩,
    ⟨(some 20), .load none (.t 19), none⟩,
    ⟨(some 21), .mv (.t 1), none⟩,
    ⟨(some 22), .mv (.t 5), none⟩,
    ⟨(some 23), .idxA 1 (.t 21) (.t 22), none⟩,
    ⟨(some 24), .load none (.t 23), none⟩,
    ⟨(some 25), .bin .neq (.t 20) (.t 24), none⟩])
  (.cond (.t 25)
    (.seq (.region [4] [⟨(some 4), .mv (.c (.bool false)), none⟩])
    .ret)
    .skip)))
  (.region [0, 1, 5] [⟨(some 15), .mv (.t 5), none⟩,
    ⟨(some 16), .bin .add (.t 15) (.c (.int .i64 1)), none⟩,
    ⟨(some 5), .mv (.t 16), none⟩])))
/-- gearbox/gearboxlaw01.SameInts · 2 parameters, 0 captured -/
def x350 : XFun := ⟨[.tmp 4],
  (.seq (.region [0, 1] [⟨(some 4), .mv (.c (.bool false)), none⟩])
  (.seq (.seq (.region [0, 1, 10] [⟨(some 6), .mv (.t 0), none⟩,
    ⟨(some 7), .len (.t 6), none⟩,
    ⟨(some 8), .mv (.t 1), none⟩,
    ⟨(some 9), .len (.t 8), none⟩,
    ⟨(some 10), .bin .neq (.t 7) (.t 9), none⟩])
  (.cond (.t 10)
    (.seq (.region [4] [⟨(some 4), .mv (.c (.bool false)), none⟩])
    .ret)
    .skip))
  (.seq (.seq (.region [0, 1, 5] [⟨(some 5), .mv (.c (.int .i64 0)), none⟩])
  (.block 0 (.loop [0, 1, 5] x350L1)))
  (.seq (.region [4] [⟨(some 4), .mv (.c (.bool true)), none⟩])
  .ret))))⟩

/-- gearbox/verify.is · 3 parameters, 0 captured -/
def x660 : XFun := ⟨[.tmp 6],
  (.seq (.region [0, 1, 2] [⟨(some 6), .mv (.c (.bool false)), none⟩])
  (.seq (.region [6] [⟨(some 7), .mv (.t 0), none⟩,
    ⟨(some 8), .mv (.t 1), none⟩,
    ⟨(some 9), .bin .geq (.t 7) (.t 8), none⟩,
    ⟨(some 10), .mv (.t 9), none⟩,
    ⟨(some 11), .mv (.t 0), some (10, true)⟩,
    ⟨(some 12), .mv (.t 2), some (10, true)⟩,
    ⟨(some 13), .bin .lss (.t 11) (.t 12), some (10, true)⟩,
    ⟨(some 14), .pick (.t 10) (.t 13) (.c (.bool false)), none⟩,
    ⟨(some 6), .mv (.t 14), none⟩])
  .ret))⟩

def x248L1 : XCode :=
  (.seq (.region [0, 4, 6, 25, 26, 27] [⟨(some 27), .bin .lss (.t 26) (.t 25), none⟩])
  (.seq (.cond (.t 27)
    .skip
    (.exit 0))
  (.seq (.block 1 (.region [0, 4, 6, 25, 26] [⟨(some 28), .load none (.t 4), none⟩,
    ⟨(some 29), .buildSlice 1 [(.int .i64 0)] 1 [(0, 1, (.c (.int .i64 (-1))))], none⟩,
    ⟨(some 30), .append 1 8 (.t 28) (.t 29), none⟩,
    ⟨none, .store 1 (.t 4) (.t 30), none⟩]))
  (.region [0, 4, 6, 25, 26] [⟨(some 31), .bin .add (.t 26) (.c (.int .i64 1)), none⟩,
    ⟨(some 26), .mv (.t 31), none⟩]))))
def x248L2 : XCode :=
  (.seq (.region [0, 4, 6, 7, 8, 9, 10, 11, 12, 13, 98, 99, 100, 101] [⟨(some 101), .bin .lss (.t 100) (.t 99), none⟩])
  (.seq (.cond (.t 101)
    .skip
    (.exit 4))
  (.seq (.block 5 (.seq (.region [0, 4, 6, 7, 8, 9, 10, 11, 12, 13, 15, 98, 99, 100] [⟨(some 102), .idxA 4 (.t 98) (.t 100), none⟩,
    ⟨(some 103), .load (some 4) (.t 102), none⟩,
    ⟨(some 15), .alloc [(.int .i64 0), (.int .i64 0), (.int .i64 0), (.int .i64 0)], none⟩,
    ⟨none, .store 4 (.t 15) (.t 103), none⟩])
  (.seq (.region [0, 4, 6, 7, 8, 9, 10, 11, 12, 13, 15, 98, 99, 100, 109] [⟨(some 104), .mv (.t 8), none⟩,
    ⟨(some 105), .fieldA 0 (.t 15), none⟩,
    ⟨(some 106), .load none (.t 105), none⟩,
    ⟨(some 107), .fieldA 1 (.t 15), none⟩,
    ⟨(some 108), .load none (.t 107), none⟩,
    ⟨(some 109), .call .view 660 [(.t 104), (.t 106), (.t 108)], none⟩])
  (.cond (.t 109)
    (.seq (.seq (.region [0, 4, 6, 7, 8, 9, 10, 11, 12, 13, 15, 98, 99, 100, 113] [⟨(some 110), .fieldA 3 (.t 15), none⟩,
      ⟨(some 111), .load none (.t 110), none⟩,
      ⟨(some 112), .mv (.t 11), none⟩,
      ⟨(some 113), .bin .gtr (.t 111) (.t 112), none⟩])
    (.cond (.t 113)
      (.seq (.region [4, 5] [⟨(some 114), .mv (.t 8), none⟩,
        ⟨none, .store 1 (.t 4) (.c (.slice none 0 0)), none⟩,
        ⟨(some 5), .mv (.t 114), none⟩])
      .ret)
      .skip))
    (.region [0, 4, 6, 7, 8, 9, 10, 11, 12, 13, 98, 99, 100] [⟨(some 115), .mv (.t 13), none⟩,
      ⟨(some 116), .fieldA 2 (.t 15), none⟩,
      ⟨(some 117), .load none (.t 116), none⟩,
      ⟨(some 118), .fieldA 3 (.t 15), none⟩,
      ⟨(some 119), .load none (.t 118), none⟩,
      ⟨(some 120), .bin .add (.t 119) (.c (.int .i64 1)), none⟩,
      ⟨(some 121), .callV (.t 115) [(.t 117), (.t 120)], none⟩]))
    .skip))))
  (.region [0, 4, 6, 7, 8, 9, 10, 11, 12, 13, 98, 99, 100] [⟨(some 122), .bin .add (.t 100) (.c (.int .i64 1)), none⟩,
    ⟨(some 100), .mv (.t 122), none⟩]))))
def x248L3 : XCode :=
  (.seq (.seq (.region [0, 4, 6, 7, 37] [⟨(some 35), .load none (.t 7), none⟩,
    ⟨(some 36), .len (.t 35), none⟩,
    ⟨(some 37), .bin .gtr (.t 36) (.c (.int .i64 0)), none⟩])
  (.cond (.t 37)
    .skip
    (.exit 2)))
  (.block 3 (.seq (.region [0, 4, 6, 7, 8] [⟨(some 38), .load none (.t 7), none⟩,
    ⟨(some 39), .load none (.t 7), none⟩,
    ⟨(some 40), .len (.t 39), none⟩,
    ⟨(some 41), .bin .sub (.t 40) (.c (.int .i64 1)), none⟩,
    ⟨(some 42), .idxA 1 (.t 38) (.t 41), none⟩,
    ⟨(some 43), .load none (.t 42), none⟩,
    ⟨(some 8), .mv (.t 43), none⟩])
  (.seq (.region [0, 4, 6, 7, 8] [⟨(some 44), .load none (.t 7), none⟩,
    ⟨(some 45), .load none (.t 7), none⟩,
    ⟨(some 46), .len (.t 45), none⟩,
    ⟨(some 47), .bin .sub (.t 46) (.c (.int .i64 1)), none⟩,
    ⟨(some 48), .slice 1 (.t 44) none (some (.t 47)), none⟩,
    ⟨none, .store 1 (.t 7) (.t 48), none⟩])
  (.seq (.region [0, 4, 6, 7, 8, 9] [⟨(some 49), .fieldA 5 (.t 6), none⟩,
    ⟨(some 50), .load none (.t 49), none⟩,
    ⟨(some 51), .mv (.t 8), none⟩,
    ⟨(some 52), .idxA 2 (.t 50) (.t 51), none⟩,
    ⟨(some 53), .load (some 2) (.t 52), none⟩,
    ⟨(some 9), .alloc [(.int .u8 0), (.int .i64 0)], none⟩,
    ⟨none, .store 2 (.t 9) (.t 53), none⟩])
  (.seq (.region [0, 4, 6, 7, 8, 9, 10] [⟨(some 54), .mv (.t 0), none⟩,
    ⟨(some 55), .fieldA 0 (.t 9), none⟩,
    ⟨(some 56), .load none (.t 55), none⟩,
    ⟨(some 57), .nilCheck (.t 54), none⟩,
    ⟨(some 58), .fieldA 1 (.t 57), none⟩,
    ⟨(some 59), .idxP 31 4 (.t 58) (.t 56), none⟩,
    ⟨(some 60), .load (some 4) (.t 59), none⟩,
    ⟨(some 10), .alloc [(.int .u8 0), (.int .i64 0), (.int .i64 0), (.int .i64 0)], none⟩,
    ⟨none, .store 4 (.t 10) (.t 60), none⟩])
  (.seq (.region [0, 4, 6, 7, 8, 9, 10, 11] [⟨(some 61), .load none (.t 4), none⟩,
    ⟨(some 62), .mv (.t 8), none⟩,
    ⟨(some 63), .idxA 1 (.t 61) (.t 62), none⟩,
    ⟨(some 64), .load none (.t 63), none⟩,
    ⟨(some 65), .fieldA 1 (.t 10), none⟩,
    ⟨(some 66), .load none (.t 65), none⟩,
    ⟨(some 67), .bin .sub (.t 64) (.t 66), none⟩,
    ⟨(some 68), .fieldA 3 (.t 10), none⟩,
    ⟨(some 69), .load none (.t 68), none⟩,
    ⟨(some 70), .fieldA 1 (.t 9), none⟩,
    ⟨(some 71), .load none (.t 70), none⟩,
    ⟨(some 72), .bin .mul (.t 69) (.t 71), none⟩,
    ⟨(some 73), .bin .sub (.t 67) (.t 72), none⟩,
    ⟨(some 11), .mv (.t 73), none⟩])
  (.seq (.seq (.region [0, 4, 6, 7, 8, 9, 10, 11, 94] [⟨(some 74), .mv (.t 11), none⟩,
    ⟨(some 75), .bin .lss (.t 74) (.c (.int .i64 0)), none⟩,
    ⟨(some 76), .mv (.t 75), none⟩,
    ⟨(some 77), .mv (.t 11), some (76, false)⟩,
    ⟨(some 78), .fieldA 2 (.t 10), some (76, false)⟩,
    ⟨(some 79), .load none (.t 78), some (76, false)⟩,
    ⟨(some 80), .bin .add (.t 77) (.t 79), some (76, false)⟩,
    ⟨(some 81), .bin .gtr (.t 80) (.c (.int .i64 256)), some (76, false)⟩,
    ⟨(some 82), .pick (.t 76) (.c (.bool true)) (.t 81), none⟩,
    ⟨(some 83), .mv (.t 82), none⟩,
    ⟨(some 84), .fieldA 0 (.t 9), some (83, false)⟩,
    ⟨(some 85), .load none (.t 84), some (83, false)⟩,
    ⟨(some 86), .bin .eql (.t 85) (.c (.int .u8 21)), some (83, false)⟩,
    ⟨(some 87), .mv (.t 86), some (83, false)⟩,
    ⟨(some 88), .load none (.t 4), some (87, true)⟩,
    ⟨(some 89), .mv (.t 8), some (87, true)⟩,
    ⟨(some 90), .idxA 1 (.t 88) (.t 89), some (87, true)⟩,
    ⟨(some 91), .load none (.t 90), some (87, true)⟩,
    ⟨(some 92), .bin .neq (.t 91) (.c (.int .i64 0)), some (87, true)⟩,
    ⟨(some 93), .pick (.t 87) (.t 92) (.c (.bool false)), some (83, false)⟩,
    ⟨(some 94), .pick (.t 83) (.c (.bool true)) (.t 93), none⟩])
  (.cond (.t 94)
    (.seq (.region [4, 5] [⟨(some 95), .mv (.t 8), none⟩,
      ⟨none, .store 1 (.t 4) (.c (.slice none 0 0)), none⟩,
      ⟨(some 5), .mv (.t 95), none⟩])
    .ret)
    .skip))
  (.seq (.region [0, 4, 6, 7, 8, 9, 10, 11, 12] [⟨(some 12), .alloc [(.bool false)], none⟩,
    ⟨none, .store 1 (.t 12) (.c (.bool true)), none⟩])
  (.seq (.region [0, 4, 6, 7, 8, 9, 10, 11, 12, 13] [⟨(some 96), .mkClo 249 [(.t 4), (.t 7), (.t 12)], none⟩,
    ⟨(some 13), .mv (.t 96), none⟩])
  (.seq (.seq (.region [0, 4, 6, 7, 8, 9, 10, 11, 12, 13, 98, 99, 100] [⟨(some 97), .fieldA 7 (.t 6), none⟩,
    ⟨(some 98), .load none (.t 97), none⟩,
    ⟨(some 99), .len (.t 98), none⟩,
    ⟨(some 100), .mv (.c (.int .i64 0)), none⟩])
  (.block 4 (.loop [0, 4, 6, 7, 8, 9, 10, 11, 12, 13, 98, 99, 100] x248L2)))
  (.seq (.region [0, 4, 6, 7, 8, 9, 11, 12, 13] [⟨(some 123), .mv (.t 11), none⟩,
    ⟨(some 124), .fieldA 2 (.t 10), none⟩,
    ⟨(some 125), .load none (.t 124), none⟩,
    ⟨(some 126), .bin .add (.t 123) (.t 125), none⟩,
    ⟨(some 11), .mv (.t 126), none⟩])
  (.seq (.seq (.region [0, 4, 6, 7, 8, 9, 11, 12, 13, 128] [⟨(some 127), .fieldA 0 (.t 9), none⟩,
    ⟨(some 128), .load none (.t 127), none⟩])
  (.block 6 (.seq (.seq (.region [0, 4, 6, 7, 8, 9, 11, 12, 13, 128, 134] [⟨(some 135), .bin .eql (.t 128) (.c (.int .u8 28)), none⟩,
    ⟨(some 134), .mv (.t 135), none⟩])
  (.cond (.t 134)
    .skip
    (.region [0, 4, 6, 7, 8, 9, 11, 12, 13, 128, 134] [⟨(some 136), .bin .eql (.t 128) (.c (.int .u8 29)), none⟩,
      ⟨(some 134), .mv (.t 136), none⟩])))
  (.cond (.t 134)
    .skip
    (.seq (.seq (.region [0, 4, 6, 7, 8, 9, 11, 12, 13, 128, 137] [⟨(some 138), .bin .eql (.t 128) (.c (.int .u8 19)), none⟩,
      ⟨(some 137), .mv (.t 138), none⟩])
    (.cond (.t 137)
      .skip
      (.region [0, 4, 6, 7, 8, 9, 11, 12, 13, 128, 137] [⟨(some 139), .bin .eql (.t 128) (.c (.int .u8 21)), none⟩,
        ⟨(some 137), .mv (.t 139), none⟩])))
    (.cond (.t 137)
      (.region [0, 4, 6, 7, 8, 12] [⟨(some 140), .mv (.t 13), none⟩,
        ⟨(some 141), .fieldA 1 (.t 9), none⟩,
        ⟨(some 142), .load none (.t 141), none⟩,
        ⟨(some 143), .mv (.t 11), none⟩,
        ⟨(some 144), .callV (.t 140) [(.t 142), (.t 143)], none⟩])
      (.seq (.region [0, 4, 6, 7, 8, 9, 11, 12, 13, 145] [⟨(some 146), .bin .eql (.t 128) (.c (.int .u8 20)), none⟩,
        ⟨(some 145), .mv (.t 146), none⟩])
      (.cond (.t 145)
        (.seq (.region [0, 4, 6, 7, 8, 9, 11, 12, 13] [⟨(some 147), .mv (.t 13), none⟩,
          ⟨(some 148), .mv (.t 8), none⟩,
          ⟨(some 149), .bin .add (.t 148) (.c (.int .i64 1)), none⟩,
          ⟨(some 150), .mv (.t 11), none⟩,
          ⟨(some 151), .callV (.t 147) [(.t 149), (.t 150)], none⟩])
        (.region [0, 4, 6, 7, 8, 12] [⟨(some 152), .mv (.t 13), none⟩,
          ⟨(some 153), .fieldA 1 (.t 9), none⟩,
          ⟨(some 154), .load none (.t 153), none⟩,
          ⟨(some 155), .mv (.t 11), none⟩,
          ⟨(some 156), .callV (.t 152) [(.t 154), (.t 155)], none⟩]))
        (.region [0, 4, 6, 7, 8, 12] [⟨(some 129), .mv (.t 13), none⟩,
          ⟨(some 130), .mv (.t 8), none⟩,
          ⟨(some 131), .bin .add (.t 130) (.c (.int .i64 1)), none⟩,
          ⟨(some 132), .mv (.t 11), none⟩,
          ⟨(some 133), .callV (.t 129) [(.t 131), (.t 132)], none⟩])))))))))
  (.seq (.region [0, 4, 6, 7, 8, 158] [⟨(some 157), .load none (.t 12), none⟩,
    ⟨(some 158), .un .not (.t 157), none⟩])
  (.cond (.t 158)
    (.seq (.region [4, 5] [⟨(some 159), .mv (.t 8), none⟩,
      ⟨none, .store 1 (.t 4) (.c (.slice none 0 0)), none⟩,
      ⟨(some 5), .mv (.t 159), none⟩])
    .ret)
    .skip)))))))))))))))
/-- (*gearbox/verify.checker).depths · 2 parameters, 0 captured -/
def x248 : XFun := ⟨[.cell 4 none, .tmp 5],
  (.seq (.region [0, 1, 4] [⟨(some 4), .alloc [(.slice none 0 0)], none⟩,
    ⟨(some 5), .mv (.c (.int .i64 0)), none⟩])
  (.seq (.region [0, 4, 6] [⟨(some 16), .mv (.t 0), none⟩,
    ⟨(some 17), .nilCheck (.t 16), none⟩,
    ⟨(some 18), .fieldA 0 (.t 17), none⟩,
    ⟨(some 19), .load none (.t 18), none⟩,
    ⟨(some 20), .mv (.t 1), none⟩,
    ⟨(some 21), .idxA 8 (.t 19) (.t 20), none⟩,
    ⟨(some 22), .load (some 8) (.t 21), none⟩,
    ⟨(some 6), .alloc [(.string .empty), (.int .i64 0), (.int .i64 0), (.slice none 0 0), (.slice none 0 0), (.slice none 0 0), (.slice none 0 0), (.slice none 0 0)], none⟩,
    ⟨none, .store 8 (.t 6) (.t 22), none⟩])
  (.seq (.seq (.region [0, 4, 6, 25, 26] [⟨(some 23), .fieldA 5 (.t 6), none⟩,
    ⟨(some 24), .load none (.t 23), none⟩,
    ⟨(some 25), .len (.t 24), none⟩,
    ⟨(some 26), .mv (.c (.int .i64 0)), none⟩])
  (.block 0 (.loop [0, 4, 6, 25, 26] x248L1)))
  (.seq (.region [0, 4, 6, 7] [⟨(some 32), .buildSlice 1 [(.int .i64 0)] 1 [(0, 1, (.c (.int .i64 0)))], none⟩,
    ⟨(some 7), .alloc [(.slice none 0 0)], none⟩,
    ⟨none, .store 1 (.t 7) (.t 32), none⟩])
  (.seq (.region [0, 4, 6, 7] [⟨(some 33), .load none (.t 4), none⟩,
    ⟨(some 34), .idxA 1 (.t 33) (.c (.int .i64 0)), none⟩,
    ⟨none, .store 1 (.t 34) (.c (.int .i64 0)), none⟩])
  (.seq (.region [0, 4, 6, 7] [⟨(some 8), .mv (.c (.int .i64 0)), none⟩])
  (.seq (.block 2 (.loop [0, 4, 6, 7] x248L3))
  (.seq (.region [4, 5] [⟨(some 160), .load none (.t 4), none⟩,
    ⟨none, .store 1 (.t 4) (.t 160), none⟩,
    ⟨(some 5), .mv (.c (.int .i64 (-1))), none⟩])
  .ret))))))))⟩

def x313L1 : XCode :=
  (.seq (.seq (.region [0, 3, 4, 14] [⟨(some 7), .mv (.t 4), none⟩,
    ⟨(some 8), .mv (.t 0), none⟩,
    ⟨(some 9), .len (.t 8), none⟩,
    ⟨(some 10), .bin .lss (.t 7) (.t 9), none⟩,
    ⟨(some 11), .mv (.t 10), none⟩,
    ⟨(some 12), .mv (.t 3), some (11, true)⟩,
    ⟨(some 13), .bin .leq (.t 12) (.c (.int .i64 1048576)), some (11, true)⟩,
    ⟨(some 14), .pick (.t 11) (.t 13) (.c (.bool false)), none⟩])
  (.cond (.t 14)
    .skip
    (.exit 0)))
  (.seq (.block 1 (.region [0, 3, 4] [⟨(some 17), .mv (.t 3), none⟩,
    ⟨(some 18), .mv (.t 0), none⟩,
    ⟨(some 19), .mv (.t 4), none⟩,
    ⟨(some 20), .idxA 8 (.t 18) (.t 19), none⟩,
    ⟨(some 21), .load (some 8) (.t 20), none⟩,
    ⟨(some 22), .call .view 312 [(.t 21)], none⟩,
    ⟨(some 23), .bin .add (.t 17) (.t 22), none⟩,
    ⟨(some 3), .mv (.t 23), none⟩]))
  (.region [0, 3, 4] [⟨(some 15), .mv (.t 4), none⟩,
    ⟨(some 16), .bin .add (.t 15) (.c (.int .i64 1)), none⟩,
    ⟨(some 4), .mv (.t 16), none⟩])))
/-- gearbox/gearboxlaw01.FnsSize · 1 parameters, 0 captured -/
def x313 : XFun := ⟨[.tmp 2],
  (.seq (.region [0] [⟨(some 2), .mv (.c (.int .i64 0)), none⟩])
  (.seq (.region [0, 3] [⟨(some 5), .mv (.t 0), none⟩,
    ⟨(some 6), .len (.t 5), none⟩,
    ⟨(some 3), .mv (.t 6), none⟩])
  (.seq (.seq (.region [0, 3, 4] [⟨(some 4), .mv (.c (.int .i64 0)), none⟩])
  (.block 0 (.loop [0, 3, 4] x313L1)))
  (.seq (.region [2] [⟨(some 24), .mv (.t 3), none⟩,
    ⟨(some 2), .mv (.t 24), none⟩])
  .ret))))⟩

/-- gearbox/gearboxlaw01.TwinFn · 1 parameters, 0 captured -/
def x367 : XFun := ⟨[.cell 2 (some 8)],
  (.seq (.region [1, 2] [⟨(some 1), .box 8 (.t 0), none⟩,
    ⟨(some 2), .alloc [(.string .empty), (.int .i64 0), (.int .i64 0), (.slice none 0 0), (.slice none 0 0), (.slice none 0 0), (.slice none 0 0), (.slice none 0 0)], none⟩])
  (.seq (.region [2] [⟨(some 3), .fieldA 0 (.t 1), none⟩,
    ⟨(some 4), .load none (.t 3), none⟩,
    ⟨(some 5), .fieldA 1 (.t 1), none⟩,
    ⟨(some 6), .load none (.t 5), none⟩,
    ⟨(some 7), .fieldA 2 (.t 1), none⟩,
    ⟨(some 8), .load none (.t 7), none⟩,
    ⟨(some 9), .fieldA 3 (.t 1), none⟩,
    ⟨(some 10), .load none (.t 9), none⟩,
    ⟨(some 11), .call .view 363 [(.t 10)], none⟩,
    ⟨(some 12), .fieldA 4 (.t 1), none⟩,
    ⟨(some 13), .load none (.t 12), none⟩,
    ⟨(some 14), .call .view 364 [(.t 13)], none⟩,
    ⟨(some 15), .fieldA 5 (.t 1), none⟩,
    ⟨(some 16), .load none (.t 15), none⟩,
    ⟨(some 17), .call .view 370 [(.t 16)], none⟩,
    ⟨(some 18), .fieldA 6 (.t 1), none⟩,
    ⟨(some 19), .load none (.t 18), none⟩,
    ⟨(some 20), .call .own 371 [(.t 19)], none⟩,
    ⟨(some 21), .fieldA 7 (.t 1), none⟩,
    ⟨(some 22), .load none (.t 21), none⟩,
    ⟨(some 23), .call .view 369 [(.t 22)], none⟩,
    ⟨(some 24), .build [(.string .empty), (.int .i64 0), (.int .i64 0), (.slice none 0 0), (.slice none 0 0), (.slice none 0 0), (.slice none 0 0), (.slice none 0 0)] [(0, 1, (.t 4)), (1, 1, (.t 6)), (2, 1, (.t 8)), (3, 1, (.t 11)), (4, 1, (.t 14)), (5, 1, (.t 17)), (6, 1, (.t 20)), (7, 1, (.t 23))], none⟩,
    ⟨none, .store 8 (.t 2) (.t 24), none⟩])
  .ret))⟩

/-- gearbox/verify.rows · 0 parameters, 0 captured -/
def x662 : XFun := ⟨[.cell 0 (some 124)],
  (.seq (.region [0] [⟨(some 0), .alloc [(.int .u8 0), (.int .i64 0), (.int .i64 0), (.int .i64 0), (.int .u8 0), (.int .i64 0), (.int .i64 0), (.int .i64 0), (.int .u8 0), (.int .i64 0), (.int .i64 0), (.int .i64 0), (.int .u8 0), (.int .i64 0), (.int .i64 0), (.int .i64 0), (.int .u8 0), (.int .i64 0), (.int .i64 0), (.int .i64 0), (.int .u8 0), (.int .i64 0), (.int .i64 0), (.int .i64 0), (.int .u8 0), (.int .i64 0), (.int .i64 0), (.int .i64 0), (.int .u8 0), (.int .i64 0), (.int .i64 0), (.int .i64 0), (.int .u8 0), (.int .i64 0), (.int .i64 0), (.int .i64 0), (.int .u8 0), (.int .i64 0), (.int .i64 0), (.int .i64 0), (.int .u8 0), (.int .i64 0), (.int .i64 0), (.int .i64 0), (.int .u8 0), (.int .i64 0), (.int .i64 0), (.int .i64 0), (.int .u8 0), (.int .i64 0), (.int .i64 0), (.int .i64 0), (.int .u8 0), (.int .i64 0), (.int .i64 0), (.int .i64 0), (.int .u8 0), (.int .i64 0), (.int .i64 0), (.int .i64 0), (.int .u8 0), (.int .i64 0), (.int .i64 0), (.int .i64 0), (.int .u8 0), (.int .i64 0), (.int .i64 0), (.int .i64 0), (.int .u8 0), (.int .i64 0), (.int .i64 0), (.int .i64 0), (.int .u8 0), (.int .i64 0), (.int .i64 0), (.int .i64 0), (.int .u8 0), (.int .i64 0), (.int .i64 0), (.int .i64 0), (.int .u8 0), (.int .i64 0), (.int .i64 0), (.int .i64 0), (.int .u8 0), (.int .i64 0), (.int .i64 0), (.int .i64 0), (.int .u8 0), (.int .i64 0), (.int .i64 0), (.int .i64 0), (.int .u8 0), (.int .i64 0), (.int .i64 0), (.int .i64 0), (.int .u8 0), (.int .i64 0), (.int .i64 0), (.int .i64 0), (.int .u8 0), (.int .i64 0), (.int .i64 0), (.int .i64 0), (.int .u8 0), (.int .i64 0), (.int .i64 0), (.int .i64 0), (.int .u8 0), (.int .i64 0), (.int .i64 0), (.int .i64 0), (.int .u8 0), (.int .i64 0), (.int .i64 0), (.int .i64 0), (.int .u8 0), (.int .i64 0), (.int .i64 0), (.int .i64 0), (.int .u8 0), (.int .i64 0), (.int .i64 0), (.int .i64 0)], none⟩])
  (.seq (.region [0] [⟨(some 1), .build [(.int .u8 0), (.int .i64 0), (.int .i64 0), (.int .i64 0)] [(0, 1, (.c (.int .u8 1))), (1, 1, (.c (.int .i64 0))), (2, 1, (.c (.int .i64 1))), (3, 1, (.c (.int .i64 0)))], none⟩,
    ⟨(some 2), .build [(.int .u8 0), (.int .i64 0), (.int .i64 0), (.int .i64 0)] [(0, 1, (.c (.int .u8 0))), (1, 1, (.c (.int .i64 0))), (2, 1, (.c (.int .i64 1))), (3, 1, (.c (.int .i64 0)))], none⟩,
    ⟨(some 3), .build [(.int .u8 0), (.int .i64 0), (.int .i64 0), (.int .i64 0)] [(0, 1, (.c (.int .u8 0))), (1, 1, (.c (.int .i64 0))), (2, 1, (.c (.int .i64 1))), (3, 1, (.c (.int .i64 0)))], none⟩,
    ⟨(some 4), .build [(.int .u8 0), (.int .i64 0), (.int .i64 0), (.int .i64 0)] [(0, 1, (.c (.int .u8 0))), (1, 1, (.c (.int .i64 0))), (2, 1, (.c (.int .i64 1))), (3, 1, (.c (.int .i64 0)))], none⟩,
    ⟨(some 5), .build [(.int .u8 0), (.int .i64 0), (.int .i64 0), (.int .i64 0)] [(0, 1, (.c (.int .u8 2))), (1, 1, (.c (.int .i64 0))), (2, 1, (.c (.int .i64 1))), (3, 1, (.c (.int .i64 0)))], none⟩,
    ⟨(some 6), .build [(.int .u8 0), (.int .i64 0), (.int .i64 0), (.int .i64 0)] [(0, 1, (.c (.int .u8 2))), (1, 1, (.c (.int .i64 1))), (2, 1, (.c (.int .i64 0))), (3, 1, (.c (.int .i64 0)))], none⟩,
    ⟨(some 7), .build [(.int .u8 0), (.int .i64 0), (.int .i64 0), (.int .i64 0)] [(0, 1, (.c (.int .u8 2))), (1, 1, (.c (.int .i64 0))), (2, 1, (.c (.int .i64 0))), (3, 1, (.c (.int .i64 0)))], none⟩,
    ⟨(some 8), .build [(.int .u8 0), (.int .i64 0), (.int .i64 0), (.int .i64 0)] [(0, 1, (.c (.int .u8 2))), (1, 1, (.c (.int .i64 0))), (2, 1, (.c (.int .i64 1))), (3, 1, (.c (.int .i64 0)))], none⟩,
    ⟨(some 9), .build [(.int .u8 0), (.int .i64 0), (.int .i64 0), (.int .i64 0)] [(0, 1, (.c (.int .u8 2))), (1, 1, (.c (.int .i64 1))), (2, 1, (.c (.int .i64 0))), (3, 1, (.c (.int .i64 0)))], none⟩,
    ⟨(some 10), .build [(.int .u8 0), (.int .i64 0), (.int .i64 0), (.int .i64 0)] [(0, 1, (.c (.int .u8 3))), (1, 1, (.c (.int .i64 0))), (2, 1, (.c (.int .i64 1))), (3, 1, (.c (.int .i64 0)))], none⟩,
    ⟨(some 11), .build [(.int .u8 0), (.int .i64 0), (.int .i64 0), (.int .i64 0)] [(0, 1, (.c (.int .u8 3))), (1, 1, (.c (.int .i64 1))), (2, 1, (.c (.int .i64 0))), (3, 1, (.c (.int .i64 0)))], none⟩,
    ⟨(some 12), .build [(.int .u8 0), (.int .i64 0), (.int .i64 0), (.int .i64 0)] [(0, 1, (.c (.int .u8 0))), (1, 1, (.c (.int .i64 1))), (2, 1, (.c (.int .i64 0))), (3, 1, (.c (.int .i64 0)))], none⟩,
    ⟨(some 13), .build [(.int .u8 0), (.int .i64 0), (.int .i64 0), (.int .i64 0)] [(0, 1, (.c (.int .u8 0))), (1, 1, (.c (.int .i64 1))), (2, 1, (.c (.int .i64 2))), (3, 1, (.c (.int .i64 0)))], none⟩,
    ⟨(some 14), .build [(.int .u8 0), (.int .i64 0), (.int .i64 0), (.int .i64 0)] [(0, 1, (.c (.int .u8 4))), (1, 1, (.c (.int .i64 2))), (2, 1, (.c (.int .i64 1))), (3, 1, (.c (.int .i64 0)))], none⟩,
    ⟨(some 15), .build [(.int .u8 0), (.int .i64 0), (.int .i64 0), (.int .i64 0)] [(0, 1, (.c (.int .u8 0))), (1, 1, (.c (.int .i64 1))), (2, 1, (.c (.int .i64 1))), (3, 1, (.c (.int .i64 0)))], none⟩,
    ⟨(some 16), .build [(.int .u8 0), (.int .i64 0), (.int .i64 0), (.int .i64 0)] [(0, 1, (.c (.int .u8 0))), (1, 1, (.c (.int .i64 1))), (2, 1, (.c (.int .i64 1))), (3, 1, (.c (.int .i64 0)))], none⟩,
    ⟨(some 17), .build [(.int .u8 0), (.int .i64 0), (.int .i64 0), (.int .i64 0)] [(0, 1, (.c (.int .u8 0))), (1, 1, (.c (.int .i64 1))), (2, 1, (.c (.int .i64 1))), (3, 1, (.c (.int .i64 0)))], none⟩,
    ⟨(some 18), .build [(.int .u8 0), (.int .i64 0), (.int .i64 0), (.int .i64 0)] [(0, 1, (.c (.int .u8 0))), (1, 1, (.c (.int .i64 1))), (2, 1, (.c (.int .i64 1))), (3, 1, (.c (.int .i64 0)))], none⟩,
    ⟨(some 19), .build [(.int .u8 0), (.int .i64 0), (.int .i64 0), (.int .i64 0)] [(0, 1, (.c (.int .u8 5))), (1, 1, (.c (.int .i64 0))), (2, 1, (.c (.int .i64 0))), (3, 1, (.c (.int .i64 0)))], none⟩,
    ⟨(some 20), .build [(.int .u8 0), (.int .i64 0), (.int .i64 0), (.int .i64 0)] [(0, 1, (.c (.int .u8 5))), (1, 1, (.c (.int .i64 1))), (2, 1, (.c (.int .i64 0))), (3, 1, (.c (.int .i64 0)))], none⟩,
    ⟨(some 21), .build [(.int .u8 0), (.int .i64 0), (.int .i64 0), (.int .i64 0)] [(0, 1, (.c (.int .u8 6))), (1, 1, (.c (.int .i64 0))), (2, 1, (.c (.int .i64 0))), (3, 1, (.c (.int .i64 0)))], none⟩,
    ⟨(some 22), .build [(.int .u8 0), (.int .i64 0), (.int .i64 0), (.int .i64 0)] [(0, 1, (.c (.int .u8 7))), (1, 1, (.c (.int .i64 0))), (2, 1, (.c (.int .i64 1))), (3, 1, (.c (.int .i64 1)))], none⟩,
    ⟨(some 23), .build [(.int .u8 0), (.int .i64 0), (.int .i64 0), (.int .i64 0)] [(0, 1, (.c (.int .u8 7))), (1, 1, (.c (.int .i64 0))), (2, 1, (.c (.int .i64 1))), (3, 1, (.c (.int .i64 2)))], none⟩,
    ⟨(some 24), .build [(.int .u8 0), (.int .i64 0), (.int .i64 0), (.int .i64 0)] [(0, 1, (.c (.int .u8 0))), (1, 1, (.c (.int .i64 2))), (2, 1, (.c (.int .i64 1))), (3, 1, (.c (.int .i64 0)))], none⟩,
    ⟨(some 25), .build [(.int .u8 0), (.int .i64 0), (.int .i64 0), (.int .i64 0)] [(0, 1, (.c (.int .u8 0))), (1, 1, (.c (.int .i64 3))), (2, 1, (.c (.int .i64 0))), (3, 1, (.c (.int .i64 0)))], none⟩,
    ⟨(some 26), .build [(.int .u8 0), (.int .i64 0), (.int .i64 0), (.int .i64 0)] [(0, 1, (.c (.int .u8 8))), (1, 1, (.c (.int .i64 0))), (2, 1, (.c (.int .i64 1))), (3, 1, (.c (.int .i64 0)))], none⟩,
    ⟨(some 27), .build [(.int .u8 0), (.int .i64 0), (.int .i64 0), (.int .i64 0)] [(0, 1, (.c (.int .u8 7))), (1, 1, (.c (.int .i64 1))), (2, 1, (.c (.int .i64 1))), (3, 1, (.c (.int .i64 1)))], none⟩,
    ⟨(some 28), .build [(.int .u8 0), (.int .i64 0), (.int .i64 0), (.int .i64 0)] [(0, 1, (.c (.int .u8 0))), (1, 1, (.c (.int .i64 1))), (2, 1, (.c (.int .i64 0))), (3, 1, (.c (.int .i64 0)))], none⟩,
    ⟨(some 29), .build [(.int .u8 0), (.int .i64 0), (.int .i64 0), (.int .i64 0)] [(0, 1, (.c (.int .u8 0))), (1, 1, (.c (.int .i64 1))), (2, 1, (.c (.int .i64 0))), (3, 1, (.c (.int .i64 0)))], none⟩,
    ⟨(some 30), .build [(.int .u8 0), (.int .i64 0), (.int .i64 0), (.int .i64 0)] [(0, 1, (.c (.int .u8 0))), (1, 1, (.c (.int .i64 1))), (2, 1, (.c (.int .i64 0))), (3, 1, (.c (.int .i64 0)))], none⟩,
    ⟨(some 31), .build [(.int .u8 0), (.int .i64 0), (.int .i64 0), (.int .i64 0), (.int .u8 0), (.int .i64 0), (.int .i64 0), (.int .i64 0), (.int .u8 0), (.int .i64 0), (.int .i64 0), (.int .i64 0), (.int .u8 0), (.int .i64 0), (.int .i64 0), (.int .i64 0), (.int .u8 0), (.int .i64 0), (.int .i64 0), (.int .i64 0), (.int .u8 0), (.int .i64 0), (.int .i64 0), (.int .i64 0), (.int .u8 0), (.int .i64 0), (.int .i64 0), (.int .i64 0), (.int .u8 0), (.int .i64 0), (.int .i64 0), (.int .i64 0), (.int .u8 0), (.int .i64 0), (.int .i64 0), (.int .i64 0), (.int .u8 0), (.int .i64 0), (.int .i64 0), (.int .i64 0), (.int .u8 0), (.int .i64 0), (.int .i64 0), (.int .i64 0), (.int .u8 0), (.int .i64 0), (.int .i64 0), (.int .i64 0), (.int .u8 0), (.int .i64 0), (.int .i64 0), (.int .i64 0), (.int .u8 0), (.int .i64 0), (.int .i64 0), (.int .i64 0), (.int .u8 0), (.int .i64 0), (.int .i64 0), (.int .i64 0), (.int .u8 0), (.int .i64 0), (.int .i64 0), (.int .i64 0), (.int .u8 0), (.int .i64 0), (.int .i64 0), (.int .i64 0), (.int .u8 0), (.int .i64 0), (.int .i64 0), (.int .i64 0), (.int .u8 0), (.int .i64 0), (.int .i64 0), (.int .i64 0), (.int .u8 0), (.int .i64 0), (.int .i64 0), (.int .i64 0), (.int .u8 0), (.int .i64 0), (.int .i64 0), (.int .i64 0), (.int .u8 0), (.int .i64 0), (.int .i64 0), (.int .i64 0), (.int .u8 0), (.int .i64 0), (.int .i64 0), (.int .i64 0), (.int .u8 0), (.int .i64 0), (.int .i64 0), (.int .i64 0), (.int .u8 0), (.int .i64 0), (.int .i64 0), (.int .i64 0), (.int .u8 0), (.int .i64 0), (.int .i64 0), (.int .i64 0), (.int .u8 0), (.int .i64 0), (.int .i64 0), (.int .i64 0), (.int .u8 0), (.int .i64 0), (.int .i64 0), (.int .i64 0), (.int .u8 0), (.int .i64 0), (.int .i64 0), (.int .i64 0), (.int .u8 0), (.int .i64 0), (.int .i64 0), (.int .i64 0), (.int .u8 0), (.int .i64 0), (.int .i64 0), (.int .i64 0)] [(4, 4, (.t 1)), (8, 4, (.t 2)), (12, 4, (.t 3)), (16, 4, (.t 4)), (20, 4, (.t 5)), (24, 4, (.t 6)), (28, 4, (.t 7)), (32, 4, (.t 8)), (36, 4, (.t 9)), (40, 4, (.t 10)), (44, 4, (.t 11)), (48, 4, (.t 12)), (52, 4, (.t 13)), (56, 4, (.t 14)), (60, 4, (.t 15)), (64, 4, (.t 16)), (68, 4, (.t 17)), (72, 4, (.t 18)), (76, 4, (.t 19)), (80, 4, (.t 20)), (84, 4, (.t 21)), (88, 4, (.t 22)), (92, 4, (.t 23)), (96, 4, (.t 24)), (100, 4, (.t 25)), (104, 4, (.t 26)), (108, 4, (.t 27)), (112, 4, (.t 28)), (116, 4, (.t 29)), (120, 4, (.t 30))], none⟩,
    ⟨none, .store 124 (.t 0) (.t 31), none⟩])
  .ret))⟩

/-- (*gearbox/verify.checker).head · 2 parameters, 0 captured -/
def x251 : XFun := ⟨[.tmp 4],
  (.seq (.region [0, 1] [⟨(some 4), .mv (.c (.bool false)), none⟩])
  (.seq (.region [1, 5] [⟨(some 9), .mv (.t 0), none⟩,
    ⟨(some 10), .nilCheck (.t 9), none⟩,
    ⟨(some 11), .fieldA 0 (.t 10), none⟩,
    ⟨(some 12), .load none (.t 11), none⟩,
    ⟨(some 13), .mv (.t 1), none⟩,
    ⟨(some 14), .idxA 8 (.t 12) (.t 13), none⟩,
    ⟨(some 15), .load (some 8) (.t 14), none⟩,
    ⟨(some 5), .alloc [(.string .empty), (.int .i64 0), (.int .i64 0), (.slice none 0 0), (.slice none 0 0), (.slice none 0 0), (.slice none 0 0), (.slice none 0 0)], none⟩,
    ⟨none, .store 8 (.t 5) (.t 15), none⟩])
  (.seq (.region [1, 5, 6] [⟨(some 16), .fieldA 5 (.t 5), none⟩,
    ⟨(some 17), .load none (.t 16), none⟩,
    ⟨(some 18), .len (.t 17), none⟩,
    ⟨(some 6), .alloc [(.int .i64 0)], none⟩,
    ⟨none, .store 1 (.t 6) (.t 18), none⟩])
  (.seq (.region [1, 5, 6, 7] [⟨(some 7), .alloc [.nilFunc], none⟩,
    ⟨none, .store 1 (.t 7) (.f 252), none⟩])
  (.seq (.region [1, 5, 6, 7, 8] [⟨(some 19), .mkClo 253 [(.t 6)], none⟩,
    ⟨(some 8), .alloc [.nilFunc], none⟩,
    ⟨none, .store 1 (.t 8) (.t 19), none⟩])
  (.seq (.region [4] [⟨(some 20), .fieldA 0 (.t 5), none⟩,
    ⟨(some 21), .load none (.t 20), none⟩,
    ⟨(some 22), .lenS (.t 21), none⟩,
    ⟨(some 23), .bin .leq (.t 22) (.c (.int .i64 4096)), none⟩,
    ⟨(some 24), .mv (.t 23), none⟩,
    ⟨(some 25), .fieldA 1 (.t 5), some (24, true)⟩,
    ⟨(some 26), .load none (.t 25), some (24, true)⟩,
    ⟨(some 27), .fieldA 2 (.t 5), some (24, true)⟩,
    ⟨(some 28), .load none (.t 27), some (24, true)⟩,
    ⟨(some 29), .bin .add (.t 28) (.c (.int .i64 1)), some (24, true)⟩,
    ⟨(some 30), .call .view 660 [(.t 26), (.c (.int .i64 0)), (.t 29)], some (24, true)⟩,
    ⟨(some 31), .pick (.t 24) (.t 30) (.c (.bool false)), none⟩,
    ⟨(some 32), .mv (.t 31), none⟩,
    ⟨(some 33), .fieldA 2 (.t 5), some (32, true)⟩,
    ⟨(some 34), .load none (.t 33), some (32, true)⟩,
    ⟨(some 35), .bin .leq (.t 34) (.c (.int .i64 64)), some (32, true)⟩,
    ⟨(some 36), .pick (.t 32) (.t 35) (.c (.bool false)), none⟩,
    ⟨(some 37), .mv (.t 36), none⟩,
    ⟨(some 38), .mv (.t 1), some (37, true)⟩,
    ⟨(some 39), .bin .gtr (.t 38) (.c (.int .i64 0)), some (37, true)⟩,
    ⟨(some 40), .mv (.t 39), some (37, true)⟩,
    ⟨(some 41), .fieldA 1 (.t 5), some (40, false)⟩,
    ⟨(some 42), .load none (.t 41), some (40, false)⟩,
    ⟨(some 43), .bin .eql (.t 42) (.c (.int .i64 0)), some (40, false)⟩,
    ⟨(some 44), .mv (.t 43), some (40, false)⟩,
    ⟨(some 45), .fieldA 3 (.t 5), some (44, true)⟩,
    ⟨(some 46), .load none (.t 45), some (44, true)⟩,
    ⟨(some 47), .len (.t 46), some (44, true)⟩,
    ⟨(some 48), .bin .eql (.t 47) (.c (.int .i64 0)), some (44, true)⟩,
    ⟨(some 49), .pick (.t 44) (.t 48) (.c (.bool false)), some (40, false)⟩,
    ⟨(some 50), .pick (.t 40) (.c (.bool true)) (.t 49), some (37, true)⟩,
    ⟨(some 51), .pick (.t 37) (.t 50) (.c (.bool false)), none⟩,
    ⟨(some 52), .mv (.t 51), none⟩,
    ⟨(some 53), .fieldA 3 (.t 5), some (52, true)⟩,
    ⟨(some 54), .load none (.t 53), some (52, true)⟩,
    ⟨(some 55), .len (.t 54), some (52, true)⟩,
    ⟨(some 56), .bin .leq (.t 55) (.c (.int .i64 4096)), some (52, true)⟩,
    ⟨(some 57), .pick (.t 52) (.t 56) (.c (.bool false)), none⟩,
    ⟨(some 58), .mv (.t 57), none⟩,
    ⟨(some 59), .fieldA 4 (.t 5), some (58, true)⟩,
    ⟨(some 60), .load none (.t 59), some (58, true)⟩,
    ⟨(some 61), .len (.t 60), some (58, true)⟩,
    ⟨(some 62), .bin .leq (.t 61) (.c (.int .i64 16384)), some (58, true)⟩,
    ⟨(some 63), .pick (.t 58) (.t 62) (.c (.bool false)), none⟩,
    ⟨(some 64), .mv (.t 63), none⟩,
    ⟨(some 65), .fieldA 7 (.t 5), some (64, true)⟩,
    ⟨(some 66), .load none (.t 65), some (64, true)⟩,
    ⟨(some 67), .len (.t 66), some (64, true)⟩,
    ⟨(some 68), .bin .leq (.t 67) (.c (.int .i64 16384)), some (64, true)⟩,
    ⟨(some 69), .pick (.t 64) (.t 68) (.c (.bool false)), none⟩,
    ⟨(some 70), .mv (.t 69), none⟩,
    ⟨(some 71), .load none (.t 6), some (70, true)⟩,
    ⟨(some 72), .call .view 660 [(.t 71), (.c (.int .i64 1)), (.c (.int .i64 16385))], some (70, true)⟩,
    ⟨(some 73), .pick (.t 70) (.t 72) (.c (.bool false)), none⟩,
    ⟨(some 74), .mv (.t 73), none⟩,
    ⟨(some 75), .fieldA 6 (.t 5), some (74, true)⟩,
    ⟨(some 76), .load none (.t 75), some (74, true)⟩,
    ⟨(some 77), .len (.t 76), some (74, true)⟩,
    ⟨(some 78), .load none (.t 6), some (74, true)⟩,
    ⟨(some 79), .bin .eql (.t 77) (.t 78), some (74, true)⟩,
    ⟨(some 80), .pick (.t 74) (.t 79) (.c (.bool false)), none⟩,
    ⟨(some 81), .mv (.t 80), none⟩,
    ⟨(some 82), .fieldA 4 (.t 5), some (81, true)⟩,
    ⟨(some 83), .load none (.t 82), some (81, true)⟩,
    ⟨(some 84), .mkClo 254 [(.t 7)], some (81, true)⟩,
    ⟨(some 85), .call .share 747 [(.t 83), (.t 84)], some (81, true)⟩,
    ⟨(some 86), .un .not (.t 85), some (81, true)⟩,
    ⟨(some 87), .pick (.t 81) (.t 86) (.c (.bool false)), none⟩,
    ⟨(some 88), .mv (.t 87), none⟩,
    ⟨(some 89), .fieldA 6 (.t 5), some (88, true)⟩,
    ⟨(some 90), .load none (.t 89), some (88, true)⟩,
    ⟨(some 91), .call .view 750 [(.t 90), (.f 255)], some (88, true)⟩,
    ⟨(some 92), .un .not (.t 91), some (88, true)⟩,
    ⟨(some 93), .pick (.t 88) (.t 92) (.c (.bool false)), none⟩,
    ⟨(some 94), .mv (.t 93), none⟩,
    ⟨(some 95), .fieldA 7 (.t 5), some (94, true)⟩,
    ⟨(some 96), .load none (.t 95), some (94, true)⟩,
    ⟨(some 97), .mkClo 256 [(.t 8)], some (94, true)⟩,
    ⟨(some 98), .call .share 748 [(.t 96), (.t 97)], some (94, true)⟩,
    ⟨(some 99), .un .not (.t 98), some (94, true)⟩,
    ⟨(some 100), .pick (.t 94) (.t 99) (.c (.bool false)), none⟩,
    ⟨(some 4), .mv (.t 100), none⟩])
  .ret))))))⟩

def x247L1 : XCode :=
  (.seq (.region [0, 1, 5, 17, 18, 19, 20] [⟨(some 20), .bin .lss (.t 19) (.t 18), none⟩])
  (.seq (.cond (.t 20)
    .skip
    (.exit 0))
  (.seq (.block 1 (.seq (.region [0, 1, 5, 6, 7, 17, 18, 19] [⟨(some 21), .mv (.t 19), none⟩,
    ⟨(some 22), .idxA 2 (.t 17) (.t 19), none⟩,
    ⟨(some 23), .load (some 2) (.t 22), none⟩,
    ⟨(some 7), .alloc [(.int .u8 0), (.int .i64 0)], none⟩,
    ⟨(some 6), .mv (.t 21), none⟩,
    ⟨none, .store 2 (.t 7) (.t 23), none⟩])
  (.seq (.region [0, 1, 5, 6, 7, 8, 17, 18, 19] [⟨(some 24), .mv (.t 6), none⟩,
    ⟨(some 25), .fieldA 5 (.t 5), none⟩,
    ⟨(some 26), .load none (.t 25), none⟩,
    ⟨(some 27), .len (.t 26), none⟩,
    ⟨(some 28), .bin .sub (.t 27) (.c (.int .i64 1)), none⟩,
    ⟨(some 29), .bin .eql (.t 24) (.t 28), none⟩,
    ⟨(some 30), .mv (.t 29), none⟩,
    ⟨(some 31), .fieldA 0 (.t 7), some (30, true)⟩,
    ⟨(some 32), .load none (.t 31), some (30, true)⟩,
    ⟨(some 33), .bin .neq (.t 32) (.c (.int .u8 28)), some (30, true)⟩,
    ⟨(some 34), .pick (.t 30) (.t 33) (.c (.bool false)), none⟩,
    ⟨(some 35), .mv (.t 34), none⟩,
    ⟨(some 36), .fieldA 0 (.t 7), some (35, true)⟩,
    ⟨(some 37), .load none (.t 36), some (35, true)⟩,
    ⟨(some 38), .bin .neq (.t 37) (.c (.int .u8 29)), some (35, true)⟩,
    ⟨(some 39), .pick (.t 35) (.t 38) (.c (.bool false)), none⟩,
    ⟨(some 40), .mv (.t 39), none⟩,
    ⟨(some 41), .fieldA 0 (.t 7), some (40, true)⟩,
    ⟨(some 42), .load none (.t 41), some (40, true)⟩,
    ⟨(some 43), .bin .neq (.t 42) (.c (.int .u8 21)), some (40, true)⟩,
    ⟨(some 44), .pick (.t 40) (.t 43) (.c (.bool false)), none⟩,
    ⟨(some 8), .mv (.t 44), none⟩])
  (.seq (.region [0, 1, 5, 6, 17, 18, 19, 65] [⟨(some 45), .mv (.t 0), none⟩,
    ⟨(some 46), .load (some 8) (.t 5), none⟩,
    ⟨(some 47), .mv (.t 6), none⟩,
    ⟨(some 48), .call .share 259 [(.t 45), (.t 46), (.t 47)], none⟩,
    ⟨(some 49), .un .not (.t 48), none⟩,
    ⟨(some 50), .mv (.t 49), none⟩,
    ⟨(some 51), .mv (.t 8), some (50, false)⟩,
    ⟨(some 52), .pick (.t 50) (.c (.bool true)) (.t 51), none⟩,
    ⟨(some 53), .mv (.t 52), none⟩,
    ⟨(some 54), .fieldA 0 (.t 7), some (53, false)⟩,
    ⟨(some 55), .load none (.t 54), some (53, false)⟩,
    ⟨(some 56), .bin .eql (.t 55) (.c (.int .u8 26)), some (53, false)⟩,
    ⟨(some 57), .mv (.t 56), some (53, false)⟩,
    ⟨(some 58), .mv (.t 0), some (57, true)⟩,
    ⟨(some 59), .mv (.t 1), some (57, true)⟩,
    ⟨(some 60), .fieldA 1 (.t 7), some (57, true)⟩,
    ⟨(some 61), .load none (.t 60), some (57, true)⟩,
    ⟨(some 62), .call .share 257 [(.t 58), (.t 59), (.t 61)], some (57, true)⟩,
    ⟨(some 63), .un .not (.t 62), some (57, true)⟩,
    ⟨(some 64), .pick (.t 57) (.t 63) (.c (.bool false)), some (53, false)⟩,
    ⟨(some 65), .pick (.t 53) (.c (.bool true)) (.t 64), none⟩])
  (.cond (.t 65)
    (.seq (.region [4] [⟨(some 66), .mv (.t 6), none⟩,
      ⟨(some 4), .mv (.t 66), none⟩])
    .ret)
    .skip)))))
  (.region [0, 1, 5, 17, 18, 19] [⟨(some 67), .bin .add (.t 19) (.c (.int .i64 1)), none⟩,
    ⟨(some 19), .mv (.t 67), none⟩]))))
/-- (*gearbox/verify.checker).code · 2 parameters, 0 captured -/
def x247 : XFun := ⟨[.tmp 4],
  (.seq (.region [0, 1] [⟨(some 4), .mv (.c (.int .i64 0)), none⟩])
  (.seq (.region [0, 1, 5] [⟨(some 9), .mv (.t 0), none⟩,
    ⟨(some 10), .nilCheck (.t 9), none⟩,
    ⟨(some 11), .fieldA 0 (.t 10), none⟩,
    ⟨(some 12), .load none (.t 11), none⟩,
    ⟨(some 13), .mv (.t 1), none⟩,
    ⟨(some 14), .idxA 8 (.t 12) (.t 13), none⟩,
    ⟨(some 15), .load (some 8) (.t 14), none⟩,
    ⟨(some 5), .alloc [(.string .empty), (.int .i64 0), (.int .i64 0), (.slice none 0 0), (.slice none 0 0), (.slice none 0 0), (.slice none 0 0), (.slice none 0 0)], none⟩,
    ⟨none, .store 8 (.t 5) (.t 15), none⟩])
  (.seq (.seq (.region [0, 1, 5, 17, 18, 19] [⟨(some 16), .fieldA 5 (.t 5), none⟩,
    ⟨(some 17), .load none (.t 16), none⟩,
    ⟨(some 18), .len (.t 17), none⟩,
    ⟨(some 19), .mv (.c (.int .i64 0)), none⟩])
  (.block 0 (.loop [0, 1, 5, 17, 18, 19] x247L1)))
  (.seq (.region [4] [⟨(some 4), .mv (.c (.int .i64 (-1))), none⟩])
  .ret))))⟩

/-- gearbox/gearboxref09.constant · 1 parameters, 0 captured -/
def x539 : XFun := ⟨[.tmp 2],
  (.seq (.region [1] [⟨(some 1), .box 3 (.t 0), none⟩,
    ⟨(some 2), .mv (.c (.bool false)), none⟩])
  (.seq (.region [2] [⟨(some 3), .fieldA 0 (.t 1), none⟩,
    ⟨(some 4), .load none (.t 3), none⟩,
    ⟨(some 5), .bin .eql (.t 4) (.c (.int .u8 2)), none⟩,
    ⟨(some 6), .mv (.t 5), none⟩,
    ⟨(some 7), .fieldA 2 (.t 1), some (6, true)⟩,
    ⟨(some 8), .load none (.t 7), some (6, true)⟩,
    ⟨(some 9), .bin .eql (.t 8) (.c (.string .empty)), some (6, true)⟩,
    ⟨(some 10), .pick (.t 6) (.t 9) (.c (.bool false)), none⟩,
    ⟨(some 11), .mv (.t 10), none⟩,
    ⟨(some 12), .fieldA 0 (.t 1), some (11, false)⟩,
    ⟨(some 13), .load none (.t 12), some (11, false)⟩,
    ⟨(some 14), .bin .eql (.t 13) (.c (.int .u8 3)), some (11, false)⟩,
    ⟨(some 15), .mv (.t 14), some (11, false)⟩,
    ⟨(some 16), .fieldA 1 (.t 1), some (15, true)⟩,
    ⟨(some 17), .load none (.t 16), some (15, true)⟩,
    ⟨(some 18), .bin .eql (.t 17) (.c (.int .i64 0)), some (15, true)⟩,
    ⟨(some 19), .pick (.t 15) (.t 18) (.c (.bool false)), some (11, false)⟩,
    ⟨(some 20), .mv (.t 19), some (11, false)⟩,
    ⟨(some 21), .fieldA 2 (.t 1), some (20, true)⟩,
    ⟨(some 22), .load none (.t 21), some (20, true)⟩,
    ⟨(some 23), .lenS (.t 22), some (20, true)⟩,
    ⟨(some 24), .bin .leq (.t 23) (.c (.int .i64 4096)), some (20, true)⟩,
    ⟨(some 25), .pick (.t 20) (.t 24) (.c (.bool false)), some (11, false)⟩,
    ⟨(some 26), .pick (.t 11) (.c (.bool true)) (.t 25), none⟩,
    ⟨(some 2), .mv (.t 26), none⟩])
  .ret))⟩

/-- gearbox/gearboxref09.number · 3 parameters, 0 captured -/
def x543 : XFun := ⟨[.tmp 6],
  (.seq (.region [0, 2, 4] [⟨(some 4), .box 8 (.t 1), none⟩,
    ⟨(some 6), .mv (.c (.bool false)), none⟩])
  (.seq (.region [0, 2, 4, 7] [⟨(some 9), .fieldA 5 (.t 4), none⟩,
    ⟨(some 10), .load none (.t 9), none⟩,
    ⟨(some 11), .mv (.t 2), none⟩,
    ⟨(some 12), .idxA 2 (.t 10) (.t 11), none⟩,
    ⟨(some 13), .load (some 2) (.t 12), none⟩,
    ⟨(some 7), .alloc [(.int .u8 0), (.int .i64 0)], none⟩,
    ⟨none, .store 2 (.t 7) (.t 13), none⟩])
  (.seq (.region [0, 2, 4, 7, 8] [⟨(some 14), .fieldA 1 (.t 7), none⟩,
    ⟨(some 15), .load none (.t 14), none⟩,
    ⟨(some 8), .mv (.t 15), none⟩])
  (.seq (.seq (.region [0, 2, 4, 7, 8, 17] [⟨(some 16), .fieldA 0 (.t 7), none⟩,
    ⟨(some 17), .load none (.t 16), none⟩])
  (.block 0 (.seq (.region [0, 2, 4, 7, 8, 17, 18] [⟨(some 19), .bin .eql (.t 17) (.c (.int .u8 1)), none⟩,
    ⟨(some 18), .mv (.t 19), none⟩])
  (.cond (.t 18)
    (.seq (.region [6] [⟨(some 20), .mv (.t 8), none⟩,
      ⟨(some 21), .bin .geq (.t 20) (.c (.int .i64 0)), none⟩,
      ⟨(some 22), .mv (.t 21), none⟩,
      ⟨(some 23), .mv (.t 8), some (22, true)⟩,
      ⟨(some 24), .fieldA 4 (.t 4), some (22, true)⟩,
      ⟨(some 25), .load none (.t 24), some (22, true)⟩,
      ⟨(some 26), .len (.t 25), some (22, true)⟩,
      ⟨(some 27), .bin .lss (.t 23) (.t 26), some (22, true)⟩,
      ⟨(some 28), .pick (.t 22) (.t 27) (.c (.bool false)), none⟩,
      ⟨(some 6), .mv (.t 28), none⟩])
    .ret)
    (.seq (.seq (.region [0, 2, 4, 7, 8, 17, 29] [⟨(some 30), .bin .eql (.t 17) (.c (.int .u8 5)), none⟩,
      ⟨(some 29), .mv (.t 30), none⟩])
    (.cond (.t 29)
      .skip
      (.seq (.region [0, 2, 4, 7, 8, 17, 29] [⟨(some 31), .bin .eql (.t 17) (.c (.int .u8 6)), none⟩,
        ⟨(some 29), .mv (.t 31), none⟩])
      (.cond (.t 29)
        .skip
        (.seq (.region [0, 2, 4, 7, 8, 17, 29] [⟨(some 32), .bin .eql (.t 17) (.c (.int .u8 7)), none⟩,
          ⟨(some 29), .mv (.t 32), none⟩])
        (.cond (.t 29)
          .skip
          (.seq (.region [0, 2, 4, 7, 8, 17, 29] [⟨(some 33), .bin .eql (.t 17) (.c (.int .u8 8)), none⟩,
            ⟨(some 29), .mv (.t 33), none⟩])
          (.cond (.t 29)
            .skip
            (.region [0, 2, 4, 7, 8, 17, 29] [⟨(some 34), .bin .eql (.t 17) (.c (.int .u8 9)), none⟩,
              ⟨(some 29), .mv (.t 34), none⟩])))))))))
    (.cond (.t 29)
      (.seq (.region [6] [⟨(some 35), .mv (.t 8), none⟩,
        ⟨(some 36), .bin .geq (.t 35) (.c (.int .i64 0)), none⟩,
        ⟨(some 37), .mv (.t 36), none⟩,
        ⟨(some 38), .mv (.t 8), some (37, true)⟩,
        ⟨(some 39), .fieldA 2 (.t 4), some (37, true)⟩,
        ⟨(some 40), .load none (.t 39), some (37, true)⟩,
        ⟨(some 41), .bin .lss (.t 38) (.t 40), some (37, true)⟩,
        ⟨(some 42), .pick (.t 37) (.t 41) (.c (.bool false)), none⟩,
        ⟨(some 6), .mv (.t 42), none⟩])
      .ret)
      (.seq (.seq (.region [0, 2, 4, 7, 8, 17, 43] [⟨(some 44), .bin .eql (.t 17) (.c (.int .u8 10)), none⟩,
        ⟨(some 43), .mv (.t 44), none⟩])
      (.cond (.t 43)
        .skip
        (.region [0, 2, 4, 7, 8, 17, 43] [⟨(some 45), .bin .eql (.t 17) (.c (.int .u8 11)), none⟩,
          ⟨(some 43), .mv (.t 45), none⟩])))
      (.cond (.t 43)
        (.seq (.region [6] [⟨(some 46), .mv (.t 8), none⟩,
          ⟨(some 47), .bin .geq (.t 46) (.c (.int .i64 0)), none⟩,
          ⟨(some 48), .mv (.t 47), none⟩,
          ⟨(some 49), .mv (.t 8), some (48, true)⟩,
          ⟨(some 50), .fieldA 3 (.t 4), some (48, true)⟩,
          ⟨(some 51), .load none (.t 50), some (48, true)⟩,
          ⟨(some 52), .len (.t 51), some (48, true)⟩,
          ⟨(some 53), .bin .lss (.t 49) (.t 52), some (48, true)⟩,
          ⟨(some 54), .pick (.t 48) (.t 53) (.c (.bool false)), none⟩,
          ⟨(some 6), .mv (.t 54), none⟩])
        .ret)
        (.seq (.region [0, 2, 4, 7, 8, 17, 55] [⟨(some 56), .bin .eql (.t 17) (.c (.int .u8 14)), none⟩,
          ⟨(some 55), .mv (.t 56), none⟩])
        (.cond (.t 55)
          (.seq (.region [6] [⟨(some 57), .mv (.t 8), none⟩,
            ⟨(some 58), .bin .geq (.t 57) (.c (.int .i64 1)), none⟩,
            ⟨(some 59), .mv (.t 58), none⟩,
            ⟨(some 60), .mv (.t 8), some (59, true)⟩,
            ⟨(some 61), .bin .leq (.t 60) (.c (.int .i64 9)), some (59, true)⟩,
            ⟨(some 62), .pick (.t 59) (.t 61) (.c (.bool false)), none⟩,
            ⟨(some 6), .mv (.t 62), none⟩])
          .ret)
          (.seq (.seq (.region [0, 2, 4, 7, 8, 17, 63] [⟨(some 64), .bin .eql (.t 17) (.c (.int .u8 19)), none⟩,
            ⟨(some 63), .mv (.t 64), none⟩])
          (.cond (.t 63)
            .skip
            (.region [0, 2, 4, 7, 8, 17, 63] [⟨(some 65), .bin .eql (.t 17) (.c (.int .u8 20)), none⟩,
              ⟨(some 63), .mv (.t 65), none⟩])))
          (.cond (.t 63)
            (.seq (.region [6] [⟨(some 66), .mv (.t 8), none⟩,
              ⟨(some 67), .mv (.t 2), none⟩,
              ⟨(some 68), .bin .gtr (.t 66) (.t 67), none⟩,
              ⟨(some 69), .mv (.t 68), none⟩,
              ⟨(some 70), .mv (.t 8), some (69, true)⟩,
              ⟨(some 71), .fieldA 5 (.t 4), some (69, true)⟩,
              ⟨(some 72), .load none (.t 71), some (69, true)⟩,
              ⟨(some 73), .len (.t 72), some (69, true)⟩,
              ⟨(some 74), .bin .lss (.t 70) (.t 73), some (69, true)⟩,
              ⟨(some 75), .pick (.t 69) (.t 74) (.c (.bool false)), none⟩,
              ⟨(some 6), .mv (.t 75), none⟩])
            .ret)
            (.seq (.region [0, 2, 7, 8, 17, 76] [⟨(some 77), .bin .eql (.t 17) (.c (.int .u8 21)), none⟩,
              ⟨(some 76), .mv (.t 77), none⟩])
            (.cond (.t 76)
              (.seq (.region [6] [⟨(some 78), .mv (.t 8), none⟩,
                ⟨(some 79), .bin .geq (.t 78) (.c (.int .i64 0)), none⟩,
                ⟨(some 80), .mv (.t 79), none⟩,
                ⟨(some 81), .mv (.t 8), some (80, true)⟩,
                ⟨(some 82), .mv (.t 2), some (80, true)⟩,
                ⟨(some 83), .bin .leq (.t 81) (.t 82), some (80, true)⟩,
                ⟨(some 84), .pick (.t 80) (.t 83) (.c (.bool false)), none⟩,
                ⟨(some 6), .mv (.t 84), none⟩])
              .ret)
              (.seq (.seq (.region [0, 7, 8, 17, 85] [⟨(some 86), .bin .eql (.t 17) (.c (.int .u8 22)), none⟩,
                ⟨(some 85), .mv (.t 86), none⟩])
              (.cond (.t 85)
                .skip
                (.seq (.region [0, 7, 8, 17, 85] [⟨(some 87), .bin .eql (.t 17) (.c (.int .u8 23)), none⟩,
                  ⟨(some 85), .mv (.t 87), none⟩])
                (.cond (.t 85)
                  .skip
                  (.region [0, 7, 8, 17, 85] [⟨(some 88), .bin .eql (.t 17) (.c (.int .u8 27)), none⟩,
                    ⟨(some 85), .mv (.t 88), none⟩])))))
              (.cond (.t 85)
                (.seq (.region [6] [⟨(some 89), .mv (.t 8), none⟩,
                  ⟨(some 90), .bin .geq (.t 89) (.c (.int .i64 0)), none⟩,
                  ⟨(some 91), .mv (.t 90), none⟩,
                  ⟨(some 92), .mv (.t 8), some (91, true)⟩,
                  ⟨(some 93), .bin .leq (.t 92) (.c (.int .i64 256)), some (91, true)⟩,
                  ⟨(some 94), .pick (.t 91) (.t 93) (.c (.bool false)), none⟩,
                  ⟨(some 6), .mv (.t 94), none⟩])
                .ret)
                (.seq (.region [0, 7, 8, 95] [⟨(some 96), .bin .eql (.t 17) (.c (.int .u8 26)), none⟩,
                  ⟨(some 95), .mv (.t 96), none⟩])
                (.cond (.t 95)
                  (.seq (.region [6] [⟨(some 97), .mv (.t 8), none⟩,
                    ⟨(some 98), .bin .geq (.t 97) (.c (.int .i64 1)), none⟩,
                    ⟨(some 99), .mv (.t 98), none⟩,
                    ⟨(some 100), .mv (.t 8), some (99, true)⟩,
                    ⟨(some 101), .mv (.t 0), some (99, true)⟩,
                    ⟨(some 102), .len (.t 101), some (99, true)⟩,
                    ⟨(some 103), .bin .lss (.t 100) (.t 102), some (99, true)⟩,
                    ⟨(some 104), .pick (.t 99) (.t 103) (.c (.bool false)), none⟩,
                    ⟨(some 6), .mv (.t 104), none⟩])
                  .ret)
                  .skip))))))))))))))))))
  (.seq (.region [6] [⟨(some 105), .fieldA 0 (.t 7), none⟩,
    ⟨(some 106), .load none (.t 105), none⟩,
    ⟨(some 107), .bin .gtr (.t 106) (.c (.int .u8 0)), none⟩,
    ⟨(some 108), .mv (.t 107), none⟩,
    ⟨(some 109), .fieldA 0 (.t 7), some (108, true)⟩,
    ⟨(some 110), .load none (.t 109), some (108, true)⟩,
    ⟨(some 111), .bin .leq (.t 110) (.c (.int .u8 30)), some (108, true)⟩,
    ⟨(some 112), .pick (.t 108) (.t 111) (.c (.bool false)), none⟩,
    ⟨(some 113), .mv (.t 112), none⟩,
    ⟨(some 114), .mv (.t 8), some (113, true)⟩,
    ⟨(some 115), .bin .eql (.t 114) (.c (.int .i64 0)), some (113, true)⟩,
    ⟨(some 116), .pick (.t 113) (.t 115) (.c (.bool false)), none⟩,
    ⟨(some 6), .mv (.t 116), none⟩])
  .ret)))))⟩

/-- gearbox/gearboxref09.ends · 1 parameters, 0 captured -/
def x541 : XFun := ⟨[.tmp 2],
  (.seq (.region [0] [⟨(some 2), .mv (.c (.bool false)), none⟩])
  (.seq (.region [2] [⟨(some 3), .mv (.t 0), none⟩,
    ⟨(some 4), .bin .eql (.t 3) (.c (.int .u8 28)), none⟩,
    ⟨(some 5), .mv (.t 4), none⟩,
    ⟨(some 6), .mv (.t 0), some (5, false)⟩,
    ⟨(some 7), .bin .eql (.t 6) (.c (.int .u8 29)), some (5, false)⟩,
    ⟨(some 8), .pick (.t 5) (.c (.bool true)) (.t 7), none⟩,
    ⟨(some 9), .mv (.t 8), none⟩,
    ⟨(some 10), .mv (.t 0), some (9, false)⟩,
    ⟨(some 11), .bin .eql (.t 10) (.c (.int .u8 21)), some (9, false)⟩,
    ⟨(some 12), .pick (.t 9) (.c (.bool true)) (.t 11), none⟩,
    ⟨(some 2), .mv (.t 12), none⟩])
  .ret))⟩

def x537L1 : XCode :=
  (.seq (.seq (.region [2, 3, 5, 11] [⟨(some 7), .mv (.t 5), none⟩,
    ⟨(some 8), .fieldA 3 (.t 3), none⟩,
    ⟨(some 9), .load none (.t 8), none⟩,
    ⟨(some 10), .len (.t 9), none⟩,
    ⟨(some 11), .bin .lss (.t 7) (.t 10), none⟩])
  (.cond (.t 11)
    .skip
    (.exit 0)))
  (.seq (.block 1 (.seq (.region [2, 3, 5, 6] [⟨(some 14), .fieldA 3 (.t 3), none⟩,
    ⟨(some 15), .load none (.t 14), none⟩,
    ⟨(some 16), .mv (.t 5), none⟩,
    ⟨(some 17), .idxA 2 (.t 15) (.t 16), none⟩,
    ⟨(some 18), .load (some 2) (.t 17), none⟩,
    ⟨(some 6), .alloc [(.bool false), (.int .i64 0)], none⟩,
    ⟨none, .store 2 (.t 6) (.t 18), none⟩])
  (.seq (.region [2, 3, 5, 45] [⟨(some 19), .fieldA 1 (.t 6), none⟩,
    ⟨(some 20), .load none (.t 19), none⟩,
    ⟨(some 21), .bin .lss (.t 20) (.c (.int .i64 0)), none⟩,
    ⟨(some 22), .mv (.t 21), none⟩,
    ⟨(some 23), .fieldA 0 (.t 6), some (22, false)⟩,
    ⟨(some 24), .load none (.t 23), some (22, false)⟩,
    ⟨(some 25), .mv (.t 24), some (22, false)⟩,
    ⟨(some 26), .fieldA 1 (.t 6), some (25, true)⟩,
    ⟨(some 27), .load none (.t 26), some (25, true)⟩,
    ⟨(some 28), .fieldA 3 (.t 2), some (25, true)⟩,
    ⟨(some 29), .load none (.t 28), some (25, true)⟩,
    ⟨(some 30), .len (.t 29), some (25, true)⟩,
    ⟨(some 31), .bin .geq (.t 27) (.t 30), some (25, true)⟩,
    ⟨(some 32), .pick (.t 25) (.t 31) (.c (.bool false)), some (22, false)⟩,
    ⟨(some 33), .pick (.t 22) (.c (.bool true)) (.t 32), none⟩,
    ⟨(some 34), .mv (.t 33), none⟩,
    ⟨(some 35), .fieldA 0 (.t 6), some (34, false)⟩,
    ⟨(some 36), .load none (.t 35), some (34, false)⟩,
    ⟨(some 37), .un .not (.t 36), some (34, false)⟩,
    ⟨(some 38), .mv (.t 37), some (34, false)⟩,
    ⟨(some 39), .fieldA 1 (.t 6), some (38, true)⟩,
    ⟨(some 40), .load none (.t 39), some (38, true)⟩,
    ⟨(some 41), .fieldA 2 (.t 2), some (38, true)⟩,
    ⟨(some 42), .load none (.t 41), some (38, true)⟩,
    ⟨(some 43), .bin .geq (.t 40) (.t 42), some (38, true)⟩,
    ⟨(some 44), .pick (.t 38) (.t 43) (.c (.bool false)), some (34, false)⟩,
    ⟨(some 45), .pick (.t 34) (.c (.bool true)) (.t 44), none⟩])
  (.cond (.t 45)
    (.seq (.region [4] [⟨(some 4), .mv (.c (.bool false)), none⟩])
    .ret)
    .skip))))
  (.region [2, 3, 5] [⟨(some 12), .mv (.t 5), none⟩,
    ⟨(some 13), .bin .add (.t 12) (.c (.int .i64 1)), none⟩,
    ⟨(some 5), .mv (.t 13), none⟩])))
/-- gearbox/gearboxref09.caps · 2 parameters, 0 captured -/
def x537 : XFun := ⟨[.tmp 4],
  (.seq (.region [2, 3] [⟨(some 2), .box 8 (.t 0), none⟩,
    ⟨(some 3), .box 8 (.t 1), none⟩,
    ⟨(some 4), .mv (.c (.bool false)), none⟩])
  (.seq (.seq (.region [2, 3, 5] [⟨(some 5), .mv (.c (.int .i64 0)), none⟩])
  (.block 0 (.loop [2, 3, 5] x537L1)))
  (.seq (.region [4] [⟨(some 4), .mv (.c (.bool true)), none⟩])
  .ret)))⟩

/-- gearbox/gearboxref09.Takes · 1 parameters, 0 captured -/
def x536 : XFun := ⟨[.tmp 2, .tmp 3],
  (.seq (.region [1] [⟨(some 1), .box 2 (.t 0), none⟩,
    ⟨(some 2), .mv (.c (.int .i64 0)), none⟩,
    ⟨(some 3), .mv (.c (.int .i64 0)), none⟩])
  (.seq (.seq (.region [1, 5] [⟨(some 4), .fieldA 0 (.t 1), none⟩,
    ⟨(some 5), .load none (.t 4), none⟩])
  (.block 0 (.seq (.seq (.region [1, 5, 6] [⟨(some 7), .bin .eql (.t 5) (.c (.int .u8 1)), none⟩,
    ⟨(some 6), .mv (.t 7), none⟩])
  (.cond (.t 6)
    .skip
    (.seq (.region [1, 5, 6] [⟨(some 8), .bin .eql (.t 5) (.c (.int .u8 2)), none⟩,
      ⟨(some 6), .mv (.t 8), none⟩])
    (.cond (.t 6)
      .skip
      (.seq (.region [1, 5, 6] [⟨(some 9), .bin .eql (.t 5) (.c (.int .u8 3)), none⟩,
        ⟨(some 6), .mv (.t 9), none⟩])
      (.cond (.t 6)
        .skip
        (.seq (.region [1, 5, 6] [⟨(some 10), .bin .eql (.t 5) (.c (.int .u8 4)), none⟩,
          ⟨(some 6), .mv (.t 10), none⟩])
        (.cond (.t 6)
          .skip
          (.seq (.region [1, 5, 6] [⟨(some 11), .bin .eql (.t 5) (.c (.int .u8 5)), none⟩,
            ⟨(some 6), .mv (.t 11), none⟩])
          (.cond (.t 6)
            .skip
            (.seq (.region [1, 5, 6] [⟨(some 12), .bin .eql (.t 5) (.c (.int .u8 8)), none⟩,
              ⟨(some 6), .mv (.t 12), none⟩])
            (.cond (.t 6)
              .skip
              (.seq (.region [1, 5, 6] [⟨(some 13), .bin .eql (.t 5) (.c (.int .u8 10)), none⟩,
                ⟨(some 6), .mv (.t 13), none⟩])
              (.cond (.t 6)
                .skip
                (.region [1, 5, 6] [⟨(some 14), .bin .eql (.t 5) (.c (.int .u8 26)), none⟩,
                  ⟨(some 6), .mv (.t 14), none⟩])))))))))))))))
  (.cond (.t 6)
    (.seq (.region [2, 3] [⟨(some 2), .mv (.c (.int .i64 0)), none⟩,
      ⟨(some 3), .mv (.c (.int .i64 1)), none⟩])
    .ret)
    (.seq (.seq (.region [1, 5, 15] [⟨(some 16), .bin .eql (.t 5) (.c (.int .u8 6)), none⟩,
      ⟨(some 15), .mv (.t 16), none⟩])
    (.cond (.t 15)
      .skip
      (.seq (.region [1, 5, 15] [⟨(some 17), .bin .eql (.t 5) (.c (.int .u8 9)), none⟩,
        ⟨(some 15), .mv (.t 17), none⟩])
      (.cond (.t 15)
        .skip
        (.seq (.region [1, 5, 15] [⟨(some 18), .bin .eql (.t 5) (.c (.int .u8 11)), none⟩,
          ⟨(some 15), .mv (.t 18), none⟩])
        (.cond (.t 15)
          .skip
          (.seq (.region [1, 5, 15] [⟨(some 19), .bin .eql (.t 5) (.c (.int .u8 12)), none⟩,
            ⟨(some 15), .mv (.t 19), none⟩])
          (.cond (.t 15)
            .skip
            (.seq (.region [1, 5, 15] [⟨(some 20), .bin .eql (.t 5) (.c (.int .u8 30)), none⟩,
              ⟨(some 15), .mv (.t 20), none⟩])
            (.cond (.t 15)
              .skip
              (.seq (.region [1, 5, 15] [⟨(some 21), .bin .eql (.t 5) (.c (.int .u8 20)), none⟩,
                ⟨(some 15), .mv (.t 21), none⟩])
              (.cond (.t 15)
                .skip
                (.seq (.region [1, 5, 15] [⟨(some 22), .bin .eql (.t 5) (.c (.int .u8 28)), none⟩,
                  ⟨(some 15), .mv (.t 22), none⟩])
                (.cond (.t 15)
                  .skip
                  (.region [1, 5, 15] [⟨(some 23), .bin .eql (.t 5) (.c (.int .u8 29)), none⟩,
                    ⟨(some 15), .mv (.t 23), none⟩])))))))))))))))
    (.cond (.t 15)
      (.seq (.region [2, 3] [⟨(some 2), .mv (.c (.int .i64 1)), none⟩,
        ⟨(some 3), .mv (.c (.int .i64 0)), none⟩])
      .ret)
      (.seq (.region [1, 5, 24] [⟨(some 25), .bin .eql (.t 5) (.c (.int .u8 13)), none⟩,
        ⟨(some 24), .mv (.t 25), none⟩])
      (.cond (.t 24)
        (.seq (.region [2, 3] [⟨(some 2), .mv (.c (.int .i64 1)), none⟩,
          ⟨(some 3), .mv (.c (.int .i64 2)), none⟩])
        .ret)
        (.seq (.seq (.region [1, 5, 26] [⟨(some 27), .bin .eql (.t 5) (.c (.int .u8 14)), none⟩,
          ⟨(some 26), .mv (.t 27), none⟩])
        (.cond (.t 26)
          .skip
          (.region [1, 5, 26] [⟨(some 28), .bin .eql (.t 5) (.c (.int .u8 24)), none⟩,
            ⟨(some 26), .mv (.t 28), none⟩])))
        (.cond (.t 26)
          (.seq (.region [2, 3] [⟨(some 2), .mv (.c (.int .i64 2)), none⟩,
            ⟨(some 3), .mv (.c (.int .i64 1)), none⟩])
          .ret)
          (.seq (.seq (.region [1, 5, 29] [⟨(some 30), .bin .eql (.t 5) (.c (.int .u8 15)), none⟩,
            ⟨(some 29), .mv (.t 30), none⟩])
          (.cond (.t 29)
            .skip
            (.seq (.region [1, 5, 29] [⟨(some 31), .bin .eql (.t 5) (.c (.int .u8 16)), none⟩,
              ⟨(some 29), .mv (.t 31), none⟩])
            (.cond (.t 29)
              .skip
              (.seq (.region [1, 5, 29] [⟨(some 32), .bin .eql (.t 5) (.c (.int .u8 17)), none⟩,
                ⟨(some 29), .mv (.t 32), none⟩])
              (.cond (.t 29)
                .skip
                (.region [1, 5, 29] [⟨(some 33), .bin .eql (.t 5) (.c (.int .u8 18)), none⟩,
                  ⟨(some 29), .mv (.t 33), none⟩])))))))
          (.cond (.t 29)
            (.seq (.region [2, 3] [⟨(some 2), .mv (.c (.int .i64 1)), none⟩,
              ⟨(some 3), .mv (.c (.int .i64 1)), none⟩])
            .ret)
            (.seq (.region [1, 5, 34] [⟨(some 35), .bin .eql (.t 5) (.c (.int .u8 22)), none⟩,
              ⟨(some 34), .mv (.t 35), none⟩])
            (.cond (.t 34)
              (.seq (.region [2, 3] [⟨(some 36), .fieldA 1 (.t 1), none⟩,
                ⟨(some 37), .load none (.t 36), none⟩,
                ⟨(some 2), .mv (.t 37), none⟩,
                ⟨(some 3), .mv (.c (.int .i64 1)), none⟩])
              .ret)
              (.seq (.region [1, 5, 38] [⟨(some 39), .bin .eql (.t 5) (.c (.int .u8 23)), none⟩,
                ⟨(some 38), .mv (.t 39), none⟩])
              (.cond (.t 38)
                (.seq (.region [2, 3] [⟨(some 40), .fieldA 1 (.t 1), none⟩,
                  ⟨(some 41), .load none (.t 40), none⟩,
                  ⟨(some 42), .bin .mul (.c (.int .i64 2)) (.t 41), none⟩,
                  ⟨(some 2), .mv (.t 42), none⟩,
                  ⟨(some 3), .mv (.c (.int .i64 1)), none⟩])
                .ret)
                (.seq (.region [1, 5, 43] [⟨(some 44), .bin .eql (.t 5) (.c (.int .u8 27)), none⟩,
                  ⟨(some 43), .mv (.t 44), none⟩])
                (.cond (.t 43)
                  (.seq (.region [2, 3] [⟨(some 45), .fieldA 1 (.t 1), none⟩,
                    ⟨(some 46), .load none (.t 45), none⟩,
                    ⟨(some 47), .bin .add (.t 46) (.c (.int .i64 1)), none⟩,
                    ⟨(some 2), .mv (.t 47), none⟩,
                    ⟨(some 3), .mv (.c (.int .i64 1)), none⟩])
                  .ret)
                  (.seq (.region [48] [⟨(some 49), .bin .eql (.t 5) (.c (.int .u8 25)), none⟩,
                    ⟨(some 48), .mv (.t 49), none⟩])
                  (.cond (.t 48)
                    (.seq (.region [2, 3] [⟨(some 2), .mv (.c (.int .i64 3)), none⟩,
                      ⟨(some 3), .mv (.c (.int .i64 0)), none⟩])
                    .ret)
                    .skip))))))))))))))))))))
  (.seq (.region [2, 3] [⟨(some 2), .mv (.c (.int .i64 0)), none⟩,
    ⟨(some 3), .mv (.c (.int .i64 0)), none⟩])
  .ret)))⟩

/-- (*gearbox/gearboxref09.teller).tell · 3 parameters, 0 captured -/
def x145 : XFun := ⟨[],
  (.seq (.seq (.region [0, 1, 2, 24] [⟨(some 6), .mv (.t 0), none⟩,
    ⟨(some 7), .nilCheck (.t 6), none⟩,
    ⟨(some 8), .fieldA 0 (.t 7), none⟩,
    ⟨(some 9), .load none (.t 8), none⟩,
    ⟨(some 10), .mv (.t 1), none⟩,
    ⟨(some 11), .idxA 1 (.t 9) (.t 10), none⟩,
    ⟨(some 12), .load none (.t 11), none⟩,
    ⟨(some 13), .bin .geq (.t 12) (.c (.int .i64 0)), none⟩,
    ⟨(some 14), .mv (.t 13), none⟩,
    ⟨(some 15), .mv (.t 0), some (14, true)⟩,
    ⟨(some 16), .nilCheck (.t 15), some (14, true)⟩,
    ⟨(some 17), .fieldA 0 (.t 16), some (14, true)⟩,
    ⟨(some 18), .load none (.t 17), some (14, true)⟩,
    ⟨(some 19), .mv (.t 1), some (14, true)⟩,
    ⟨(some 20), .idxA 1 (.t 18) (.t 19), some (14, true)⟩,
    ⟨(some 21), .load none (.t 20), some (14, true)⟩,
    ⟨(some 22), .mv (.t 2), some (14, true)⟩,
    ⟨(some 23), .bin .neq (.t 21) (.t 22), some (14, true)⟩,
    ⟨(some 24), .pick (.t 14) (.t 23) (.c (.bool false)), none⟩])
  (.cond (.t 24)
    (.seq (.region [] [⟨(some 25), .mv (.t 0), none⟩,
      ⟨(some 26), .nilCheck (.t 25), none⟩,
      ⟨(some 27), .fieldA 1 (.t 26), none⟩,
      ⟨none, .store 1 (.t 27) (.c (.bool true)), none⟩])
    .ret)
    .skip))
  (.region [] [⟨(some 28), .mv (.t 0), none⟩,
    ⟨(some 29), .nilCheck (.t 28), none⟩,
    ⟨(some 30), .fieldA 0 (.t 29), none⟩,
    ⟨(some 31), .load none (.t 30), none⟩,
    ⟨(some 32), .mv (.t 1), none⟩,
    ⟨(some 33), .mv (.t 2), none⟩,
    ⟨(some 34), .idxA 1 (.t 31) (.t 32), none⟩,
    ⟨none, .store 1 (.t 34) (.t 33), none⟩]))⟩

/-- gearbox/gearboxref09.Nexts · 2 parameters, 0 captured -/
def x535 : XFun := ⟨[.tmp 4],
  (.seq (.region [1, 2] [⟨(some 2), .box 8 (.t 0), none⟩,
    ⟨(some 4), .mv (.c (.slice none 0 0)), none⟩])
  (.seq (.region [1, 5] [⟨(some 6), .fieldA 5 (.t 2), none⟩,
    ⟨(some 7), .load none (.t 6), none⟩,
    ⟨(some 8), .mv (.t 1), none⟩,
    ⟨(some 9), .idxA 2 (.t 7) (.t 8), none⟩,
    ⟨(some 10), .load (some 2) (.t 9), none⟩,
    ⟨(some 5), .alloc [(.int .u8 0), (.int .i64 0)], none⟩,
    ⟨none, .store 2 (.t 5) (.t 10), none⟩])
  (.seq (.seq (.region [1, 5, 12] [⟨(some 11), .fieldA 0 (.t 5), none⟩,
    ⟨(some 12), .load none (.t 11), none⟩])
  (.block 0 (.seq (.seq (.region [1, 5, 12, 13] [⟨(some 14), .bin .eql (.t 12) (.c (.int .u8 28)), none⟩,
    ⟨(some 13), .mv (.t 14), none⟩])
  (.cond (.t 13)
    .skip
    (.region [1, 5, 12, 13] [⟨(some 15), .bin .eql (.t 12) (.c (.int .u8 29)), none⟩,
      ⟨(some 13), .mv (.t 15), none⟩])))
  (.cond (.t 13)
    (.seq (.region [4] [⟨(some 4), .mv (.c (.slice none 0 0)), none⟩])
    .ret)
    (.seq (.seq (.region [1, 5, 12, 16] [⟨(some 17), .bin .eql (.t 12) (.c (.int .u8 19)), none⟩,
      ⟨(some 16), .mv (.t 17), none⟩])
    (.cond (.t 16)
      .skip
      (.region [1, 5, 12, 16] [⟨(some 18), .bin .eql (.t 12) (.c (.int .u8 21)), none⟩,
        ⟨(some 16), .mv (.t 18), none⟩])))
    (.cond (.t 16)
      (.seq (.region [4] [⟨(some 19), .fieldA 1 (.t 5), none⟩,
        ⟨(some 20), .load none (.t 19), none⟩,
        ⟨(some 21), .buildSlice 1 [(.int .i64 0)] 1 [(0, 1, (.t 20))], none⟩,
        ⟨(some 4), .mv (.t 21), none⟩])
      .ret)
      (.seq (.region [1, 5, 22] [⟨(some 23), .bin .eql (.t 12) (.c (.int .u8 20)), none⟩,
        ⟨(some 22), .mv (.t 23), none⟩])
      (.cond (.t 22)
        (.seq (.region [4] [⟨(some 24), .mv (.t 1), none⟩,
          ⟨(some 25), .bin .add (.t 24) (.c (.int .i64 1)), none⟩,
          ⟨(some 26), .fieldA 1 (.t 5), none⟩,
          ⟨(some 27), .load none (.t 26), none⟩,
          ⟨(some 28), .buildSlice 1 [(.int .i64 0)] 2 [(0, 1, (.t 25)), (1, 1, (.t 27))], none⟩,
          ⟨(some 4), .mv (.t 28), none⟩])
        .ret)
        .skip))))))))
  (.seq (.region [4] [⟨(some 29), .mv (.t 1), none⟩,
    ⟨(some 30), .bin .add (.t 29) (.c (.int .i64 1)), none⟩,
    ⟨(some 31), .buildSlice 1 [(.int .i64 0)] 1 [(0, 1, (.t 30))], none⟩,
    ⟨(some 4), .mv (.t 31), none⟩])
  .ret))))⟩

/-- gearbox/gearboxlaw01.LeftFn · 2 parameters, 0 captured -/
def x324 : XFun := ⟨[.tmp 4],
  (.seq (.region [2, 3] [⟨(some 2), .box 8 (.t 0), none⟩,
    ⟨(some 3), .box 8 (.t 1), none⟩,
    ⟨(some 4), .mv (.c (.bool false)), none⟩])
  (.seq (.region [4] [⟨(some 5), .fieldA 0 (.t 2), none⟩,
    ⟨(some 6), .load none (.t 5), none⟩,
    ⟨(some 7), .fieldA 0 (.t 3), none⟩,
    ⟨(some 8), .load none (.t 7), none⟩,
    ⟨(some 9), .bin .eql (.t 6) (.t 8), none⟩,
    ⟨(some 10), .mv (.t 9), none⟩,
    ⟨(some 11), .fieldA 1 (.t 2), some (10, true)⟩,
    ⟨(some 12), .load none (.t 11), some (10, true)⟩,
    ⟨(some 13), .fieldA 1 (.t 3), some (10, true)⟩,
    ⟨(some 14), .load none (.t 13), some (10, true)⟩,
    ⟨(some 15), .bin .eql (.t 12) (.t 14), some (10, true)⟩,
    ⟨(some 16), .pick (.t 10) (.t 15) (.c (.bool false)), none⟩,
    ⟨(some 17), .mv (.t 16), none⟩,
    ⟨(some 18), .fieldA 2 (.t 2), some (17, true)⟩,
    ⟨(some 19), .load none (.t 18), some (17, true)⟩,
    ⟨(some 20), .fieldA 2 (.t 3), some (17, true)⟩,
    ⟨(some 21), .load none (.t 20), some (17, true)⟩,
    ⟨(some 22), .bin .eql (.t 19) (.t 21), some (17, true)⟩,
    ⟨(some 23), .pick (.t 17) (.t 22) (.c (.bool false)), none⟩,
    ⟨(some 24), .mv (.t 23), none⟩,
    ⟨(some 25), .fieldA 3 (.t 2), some (24, true)⟩,
    ⟨(some 26), .load none (.t 25), some (24, true)⟩,
    ⟨(some 27), .fieldA 3 (.t 3), some (24, true)⟩,
    ⟨(some 28), .load none (.t 27), some (24, true)⟩,
    ⟨(some 29), .call .view 320 [(.t 26), (.t 28)], some (24, true)⟩,
    ⟨(some 30), .pick (.t 24) (.t 29) (.c (.bool false)), none⟩,
    ⟨(some 31), .mv (.t 30), none⟩,
    ⟨(some 32), .fieldA 4 (.t 2), some (31, true)⟩,
    ⟨(some 33), .load none (.t 32), some (31, true)⟩,
    ⟨(some 34), .fieldA 4 (.t 3), some (31, true)⟩,
    ⟨(some 35), .load none (.t 34), some (31, true)⟩,
    ⟨(some 36), .call .view 321 [(.t 33), (.t 35)], some (31, true)⟩,
    ⟨(some 37), .pick (.t 31) (.t 36) (.c (.bool false)), none⟩,
    ⟨(some 38), .mv (.t 37), none⟩,
    ⟨(some 39), .fieldA 5 (.t 2), some (38, true)⟩,
    ⟨(some 40), .load none (.t 39), some (38, true)⟩,
    ⟨(some 41), .fieldA 5 (.t 3), some (38, true)⟩,
    ⟨(some 42), .load none (.t 41), some (38, true)⟩,
    ⟨(some 43), .call .view 327 [(.t 40), (.t 42)], some (38, true)⟩,
    ⟨(some 44), .pick (.t 38) (.t 43) (.c (.bool false)), none⟩,
    ⟨(some 45), .mv (.t 44), none⟩,
    ⟨(some 46), .fieldA 6 (.t 2), some (45, true)⟩,
    ⟨(some 47), .load none (.t 46), some (45, true)⟩,
    ⟨(some 48), .fieldA 6 (.t 3), some (45, true)⟩,
    ⟨(some 49), .load none (.t 48), some (45, true)⟩,
    ⟨(some 50), .call .view 328 [(.t 47), (.t 49)], some (45, true)⟩,
    ⟨(some 51), .pick (.t 45) (.t 50) (.c (.bool false)), none⟩,
    ⟨(some 52), .mv (.t 51), none⟩,
    ⟨(some 53), .fieldA 7 (.t 2), some (52, true)⟩,
    ⟨(some 54), .load none (.t 53), some (52, true)⟩,
    ⟨(some 55), .fieldA 7 (.t 3), some (52, true)⟩,
    ⟨(some 56), .load none (.t 55), some (52, true)⟩,
    ⟨(some 57), .call .view 326 [(.t 54), (.t 56)], some (52, true)⟩,
    ⟨(some 58), .pick (.t 52) (.t 57) (.c (.bool false)), none⟩,
    ⟨(some 4), .mv (.t 58), none⟩])
  .ret))⟩

/-- (*gearbox/verify.checker).depths$1 · 2 parameters, 3 captured -/
def x249 : XFun := ⟨[],
  (.seq (.seq (.region [0, 1, 2, 3, 4, 13] [⟨(some 9), .load none (.t 2), none⟩,
    ⟨(some 10), .mv (.t 0), none⟩,
    ⟨(some 11), .idxA 1 (.t 9) (.t 10), none⟩,
    ⟨(some 12), .load none (.t 11), none⟩,
    ⟨(some 13), .bin .lss (.t 12) (.c (.int .i64 0)), none⟩])
  (.cond (.t 13)
    (.seq (.region [0, 1, 2, 3, 4] [⟨(some 14), .load none (.t 2), none⟩,
      ⟨(some 15), .mv (.t 0), none⟩,
      ⟨(some 16), .mv (.t 1), none⟩,
      ⟨(some 17), .idxA 1 (.t 14) (.t 15), none⟩,
      ⟨none, .store 1 (.t 17) (.t 16), none⟩])
    (.seq (.region [0, 1, 2, 3, 4, 7] [⟨(some 19), .load none (.t 3), none⟩,
      ⟨(some 20), .mv (.t 0), none⟩,
      ⟨(some 21), .call .view 737 [(.t 19), (.t 20), (.f 250)], none⟩,
      ⟨(some 18), .mv (.t 21), none⟩,
      ⟨(some 22), .extract (.t 18) 0, none⟩,
      ⟨(some 23), .extract (.t 18) 1, none⟩,
      ⟨(some 7), .mv (.t 22), none⟩,
      ⟨(some 8), .mv (.t 23), none⟩])
    (.region [0, 1, 2, 4] [⟨(some 24), .load none (.t 3), none⟩,
      ⟨(some 25), .mv (.t 7), none⟩,
      ⟨(some 26), .mv (.t 0), none⟩,
      ⟨(some 27), .buildSlice 1 [(.int .i64 0)] 1 [(0, 1, (.t 26))], none⟩,
      ⟨(some 28), .call .share 766 [(.t 24), (.t 25), (.t 27)], none⟩,
      ⟨none, .store 1 (.t 3) (.t 28), none⟩])))
    .skip))
  (.region [] [⟨(some 29), .load none (.t 4), none⟩,
    ⟨(some 30), .mv (.t 29), none⟩,
    ⟨(some 31), .load none (.t 2), some (30, true)⟩,
    ⟨(some 32), .mv (.t 0), some (30, true)⟩,
    ⟨(some 33), .idxA 1 (.t 31) (.t 32), some (30, true)⟩,
    ⟨(some 34), .load none (.t 33), some (30, true)⟩,
    ⟨(some 35), .mv (.t 1), some (30, true)⟩,
    ⟨(some 36), .bin .eql (.t 34) (.t 35), some (30, true)⟩,
    ⟨(some 37), .pick (.t 30) (.t 36) (.c (.bool false)), none⟩,
    ⟨none, .store 1 (.t 4) (.t 37), none⟩]))⟩

def x737L1 : XCode :=
  (.seq (.seq (.region [0, 1, 2, 8, 9, 10, 17] [⟨(some 15), .mv (.t 9), none⟩,
    ⟨(some 16), .mv (.t 10), none⟩,
    ⟨(some 17), .bin .lss (.t 15) (.t 16), none⟩])
  (.cond (.t 17)
    .skip
    (.exit 0)))
  (.block 1 (.seq (.region [0, 1, 2, 8, 9, 10, 11] [⟨(some 18), .mv (.t 9), none⟩,
    ⟨(some 19), .mv (.t 10), none⟩,
    ⟨(some 20), .bin .add (.t 18) (.t 19), none⟩,
    ⟨(some 21), .conv .u64 (.t 20), none⟩,
    ⟨(some 22), .bin .shr (.t 21) (.c (.int .u64 1)), none⟩,
    ⟨(some 23), .conv .i64 (.t 22), none⟩,
    ⟨(some 11), .mv (.t 23), none⟩])
  (.seq (.region [0, 1, 2, 8, 9, 10, 11, 31] [⟨(some 24), .mv (.t 2), none⟩,
    ⟨(some 25), .mv (.t 0), none⟩,
    ⟨(some 26), .mv (.t 11), none⟩,
    ⟨(some 27), .idxA 1 (.t 25) (.t 26), none⟩,
    ⟨(some 28), .load none (.t 27), none⟩,
    ⟨(some 29), .mv (.t 1), none⟩,
    ⟨(some 30), .callV (.t 24) [(.t 28), (.t 29)], none⟩,
    ⟨(some 31), .bin .lss (.t 30) (.c (.int .i64 0)), none⟩])
  (.cond (.t 31)
    (.region [0, 1, 2, 8, 9, 10] [⟨(some 32), .mv (.t 11), none⟩,
      ⟨(some 33), .bin .add (.t 32) (.c (.int .i64 1)), none⟩,
      ⟨(some 9), .mv (.t 33), none⟩])
    (.region [0, 1, 2, 8, 9, 10] [⟨(some 34), .mv (.t 11), none⟩,
      ⟨(some 10), .mv (.t 34), none⟩]))))))
/-- slices.BinarySearchFunc[[]int,int,int] · 3 parameters, 0 captured -/
def x737 : XFun := ⟨[.tmp 6, .tmp 7],
  (.seq (.region [0, 1, 2] [⟨(some 6), .mv (.c (.int .i64 0)), none⟩,
    ⟨(some 7), .mv (.c (.bool false)), none⟩])
  (.seq (.region [0, 1, 2, 8] [⟨(some 12), .mv (.t 0), none⟩,
    ⟨(some 13), .len (.t 12), none⟩,
    ⟨(some 8), .mv (.t 13), none⟩])
  (.seq (.region [0, 1, 2, 8, 9, 10] [⟨(some 14), .mv (.t 8), none⟩,
    ⟨(some 9), .mv (.c (.int .i64 0)), none⟩,
    ⟨(some 10), .mv (.t 14), none⟩])
  (.seq (.block 0 (.loop [0, 1, 2, 8, 9, 10] x737L1))
  (.seq (.region [6, 7] [⟨(some 35), .mv (.t 9), none⟩,
    ⟨(some 36), .mv (.t 9), none⟩,
    ⟨(some 37), .mv (.t 8), none⟩,
    ⟨(some 38), .bin .lss (.t 36) (.t 37), none⟩,
    ⟨(some 39), .mv (.t 38), none⟩,
    ⟨(some 40), .mv (.t 2), some (39, true)⟩,
    ⟨(some 41), .mv (.t 0), some (39, true)⟩,
    ⟨(some 42), .mv (.t 9), some (39, true)⟩,
    ⟨(some 43), .idxA 1 (.t 41) (.t 42), some (39, true)⟩,
    ⟨(some 44), .load none (.t 43), some (39, true)⟩,
    ⟨(some 45), .mv (.t 1), some (39, true)⟩,
    ⟨(some 46), .callV (.t 40) [(.t 44), (.t 45)], some (39, true)⟩,
    ⟨(some 47), .bin .eql (.t 46) (.c (.int .i64 0)), some (39, true)⟩,
    ⟨(some 48), .pick (.t 39) (.t 47) (.c (.bool false)), none⟩,
    ⟨(some 6), .mv (.t 35), none⟩,
    ⟨(some 7), .mv (.t 48), none⟩])
  .ret)))))⟩

/-- (*gearbox/verify.checker).depths$1$1 · 2 parameters, 0 captured -/
def x250 : XFun := ⟨[.tmp 4],
  (.seq (.region [0, 1] [⟨(some 4), .mv (.c (.int .i64 0)), none⟩])
  (.seq (.region [4] [⟨(some 5), .mv (.t 1), none⟩,
    ⟨(some 6), .mv (.t 0), none⟩,
    ⟨(some 7), .bin .sub (.t 5) (.t 6), none⟩,
    ⟨(some 4), .mv (.t 7), none⟩])
  .ret))⟩

/-- slices.Insert[[]int,int] · 3 parameters, 0 captured -/
def x766 : XFun := ⟨[.tmp 6],
  (.seq (.region [0, 1, 2, 9] [⟨(some 6), .mv (.c (.slice none 0 0)), none⟩])
  (.seq (.region [0, 1, 2, 9] [⟨(some 10), .mv (.t 0), none⟩,
    ⟨(some 11), .mv (.t 1), none⟩,
    ⟨(some 12), .slice 1 (.t 10) (some (.t 11)) none, none⟩])
  (.seq (.region [0, 1, 2, 7, 9] [⟨(some 13), .mv (.t 2), none⟩,
    ⟨(some 14), .len (.t 13), none⟩,
    ⟨(some 7), .mv (.t 14), none⟩])
  (.seq (.seq (.region [0, 1, 2, 7, 9, 16] [⟨(some 15), .mv (.t 7), none⟩,
    ⟨(some 16), .bin .eql (.t 15) (.c (.int .i64 0)), none⟩])
  (.cond (.t 16)
    (.seq (.region [6] [⟨(some 17), .mv (.t 0), none⟩,
      ⟨(some 6), .mv (.t 17), none⟩])
    .ret)
    .skip))
  (.seq (.region [0, 1, 2, 7, 8, 9] [⟨(some 18), .mv (.t 0), none⟩,
    ⟨(some 19), .len (.t 18), none⟩,
    ⟨(some 8), .mv (.t 19), none⟩])
  (.seq (.seq (.region [0, 1, 2, 7, 8, 9, 22] [⟨(some 20), .mv (.t 1), none⟩,
    ⟨(some 21), .mv (.t 8), none⟩,
    ⟨(some 22), .bin .eql (.t 20) (.t 21), none⟩])
  (.cond (.t 22)
    (.seq (.region [6] [⟨(some 23), .mv (.t 0), none⟩,
      ⟨(some 24), .mv (.t 2), none⟩,
      ⟨(some 25), .append 1 8 (.t 23) (.t 24), none⟩,
      ⟨(some 6), .mv (.t 25), none⟩])
    .ret)
    .skip))
  (.seq (.seq (.region [0, 1, 2, 7, 8, 9, 31] [⟨(some 26), .mv (.t 8), none⟩,
    ⟨(some 27), .mv (.t 7), none⟩,
    ⟨(some 28), .bin .add (.t 26) (.t 27), none⟩,
    ⟨(some 29), .mv (.t 0), none⟩,
    ⟨(some 30), .cap (.t 29), none⟩,
    ⟨(some 31), .bin .gtr (.t 28) (.t 30), none⟩])
  (.cond (.t 31)
    (.seq (.region [0, 1, 2, 7, 9] [⟨(some 32), .mv (.t 0), none⟩,
      ⟨(some 33), .mv (.t 1), none⟩,
      ⟨(some 34), .slice 1 (.t 32) none (some (.t 33)), none⟩,
      ⟨(some 35), .mv (.t 8), none⟩,
      ⟨(some 36), .mv (.t 7), none⟩,
      ⟨(some 37), .bin .add (.t 35) (.t 36), none⟩,
      ⟨(some 38), .mv (.t 1), none⟩,
      ⟨(some 39), .bin .sub (.t 37) (.t 38), none⟩,
      ⟨none, .callV (.c (.bool true)) [], none⟩])
    (.seq (.region [0, 1, 7, 9] [⟨(some 41), .mv (.t 9), none⟩,
      ⟨(some 42), .mv (.t 1), none⟩,
      ⟨(some 43), .slice 1 (.t 41) (some (.t 42)) none, none⟩,
      ⟨(some 44), .mv (.t 2), none⟩,
      ⟨(some 45), .copy 1 (.t 43) (.t 44), none⟩])
    (.seq (.region [9] [⟨(some 46), .mv (.t 9), none⟩,
      ⟨(some 47), .mv (.t 1), none⟩,
      ⟨(some 48), .mv (.t 7), none⟩,
      ⟨(some 49), .bin .add (.t 47) (.t 48), none⟩,
      ⟨(some 50), .slice 1 (.t 46) (some (.t 49)) none, none⟩,
      ⟨(some 51), .mv (.t 0), none⟩,
      ⟨(some 52), .mv (.t 1), none⟩,
      ⟨(some 53), .slice 1 (.t 51) (some (.t 52)) none, none⟩,
      ⟨(some 54), .copy 1 (.t 50) (.t 53), none⟩])
    (.seq (.region [6] [⟨(some 55), .mv (.t 9), none⟩,
      ⟨(some 6), .mv (.t 55), none⟩])
    .ret))))
    .skip))
  (.seq (.region [0, 1, 2, 7, 8] [⟨(some 56), .mv (.t 0), none⟩,
    ⟨(some 57), .mv (.t 8), none⟩,
    ⟨(some 58), .mv (.t 7), none⟩,
    ⟨(some 59), .bin .add (.t 57) (.t 58), none⟩,
    ⟨(some 60), .slice 1 (.t 56) none (some (.t 59)), none⟩,
    ⟨(some 0), .mv (.t 60), none⟩])
  (.seq (.seq (.region [0, 1, 2, 7, 8, 68] [⟨(some 61), .mv (.t 2), none⟩,
    ⟨(some 62), .mv (.t 0), none⟩,
    ⟨(some 63), .mv (.t 1), none⟩,
    ⟨(some 64), .mv (.t 7), none⟩,
    ⟨(some 65), .bin .add (.t 63) (.t 64), none⟩,
    ⟨(some 66), .slice 1 (.t 62) (some (.t 65)) none, none⟩,
    ⟨(some 67), .call .view 100063 [(.t 61), (.t 66)], none⟩,
    ⟨(some 68), .un .not (.t 67), none⟩])
  (.cond (.t 68)
    (.seq (.region [0, 1, 2] [⟨(some 69), .mv (.t 0), none⟩,
      ⟨(some 70), .mv (.t 1), none⟩,
      ⟨(some 71), .mv (.t 7), none⟩,
      ⟨(some 72), .bin .add (.t 70) (.t 71), none⟩,
      ⟨(some 73), .slice 1 (.t 69) (some (.t 72)) none, none⟩,
      ⟨(some 74), .mv (.t 0), none⟩,
      ⟨(some 75), .mv (.t 1), none⟩,
      ⟨(some 76), .slice 1 (.t 74) (some (.t 75)) none, none⟩,
      ⟨(some 77), .copy 1 (.t 73) (.t 76), none⟩])
    (.seq (.region [0] [⟨(some 78), .mv (.t 0), none⟩,
      ⟨(some 79), .mv (.t 1), none⟩,
      ⟨(some 80), .slice 1 (.t 78) (some (.t 79)) none, none⟩,
      ⟨(some 81), .mv (.t 2), none⟩,
      ⟨(some 82), .copy 1 (.t 80) (.t 81), none⟩])
    (.seq (.region [6] [⟨(some 83), .mv (.t 0), none⟩,
      ⟨(some 6), .mv (.t 83), none⟩])
    .ret)))
    .skip))
  (.seq (.region [0, 1, 7] [⟨(some 84), .mv (.t 0), none⟩,
    ⟨(some 85), .mv (.t 8), none⟩,
    ⟨(some 86), .slice 1 (.t 84) (some (.t 85)) none, none⟩,
    ⟨(some 87), .mv (.t 2), none⟩,
    ⟨(some 88), .copy 1 (.t 86) (.t 87), none⟩])
  (.seq (.region [0] [⟨(some 89), .mv (.t 0), none⟩,
    ⟨(some 90), .mv (.t 1), none⟩,
    ⟨(some 91), .slice 1 (.t 89) (some (.t 90)) none, none⟩,
    ⟨(some 92), .mv (.t 7), none⟩,
    ⟨(some 93), .call .view 783 [(.t 91), (.t 92)], none⟩])
  (.seq (.region [6] [⟨(some 94), .mv (.t 0), none⟩,
    ⟨(some 6), .mv (.t 94), none⟩])
  .ret))))))))))))⟩

/-- gearbox/gearboxlaw01.FnSize · 1 parameters, 0 captured -/
def x312 : XFun := ⟨[.tmp 2],
  (.seq (.region [1] [⟨(some 1), .box 8 (.t 0), none⟩,
    ⟨(some 2), .mv (.c (.int .i64 0)), none⟩])
  (.seq (.region [1, 3] [⟨(some 4), .fieldA 0 (.t 1), none⟩,
    ⟨(some 5), .load none (.t 4), none⟩,
    ⟨(some 6), .lenS (.t 5), none⟩,
    ⟨(some 7), .bin .add (.c (.int .i64 1)) (.t 6), none⟩,
    ⟨(some 3), .mv (.t 7), none⟩])
  (.seq (.seq (.region [1, 3, 9] [⟨(some 8), .mv (.t 3), none⟩,
    ⟨(some 9), .bin .leq (.t 8) (.c (.int .i64 1048576)), none⟩])
  (.cond (.t 9)
    (.region [1, 3] [⟨(some 10), .mv (.t 3), none⟩,
      ⟨(some 11), .fieldA 3 (.t 1), none⟩,
      ⟨(some 12), .load none (.t 11), none⟩,
      ⟨(some 13), .call .view 304 [(.t 12)], none⟩,
      ⟨(some 14), .bin .add (.t 10) (.t 13), none⟩,
      ⟨(some 3), .mv (.t 14), none⟩])
    .skip))
  (.seq (.seq (.region [1, 3, 16] [⟨(some 15), .mv (.t 3), none⟩,
    ⟨(some 16), .bin .leq (.t 15) (.c (.int .i64 1048576)), none⟩])
  (.cond (.t 16)
    (.region [1, 3] [⟨(some 17), .mv (.t 3), none⟩,
      ⟨(some 18), .fieldA 4 (.t 1), none⟩,
      ⟨(some 19), .load none (.t 18), none⟩,
      ⟨(some 20), .call .view 305 [(.t 19)], none⟩,
      ⟨(some 21), .bin .add (.t 17) (.t 20), none⟩,
      ⟨(some 3), .mv (.t 21), none⟩])
    .skip))
  (.seq (.seq (.region [1, 3, 23] [⟨(some 22), .mv (.t 3), none⟩,
    ⟨(some 23), .bin .leq (.t 22) (.c (.int .i64 1048576)), none⟩])
  (.cond (.t 23)
    (.region [1, 3] [⟨(some 24), .mv (.t 3), none⟩,
      ⟨(some 25), .fieldA 5 (.t 1), none⟩,
      ⟨(some 26), .load none (.t 25), none⟩,
      ⟨(some 27), .call .view 318 [(.t 26)], none⟩,
      ⟨(some 28), .bin .add (.t 24) (.t 27), none⟩,
      ⟨(some 3), .mv (.t 28), none⟩])
    .skip))
  (.seq (.seq (.region [1, 3, 30] [⟨(some 29), .mv (.t 3), none⟩,
    ⟨(some 30), .bin .leq (.t 29) (.c (.int .i64 1048576)), none⟩])
  (.cond (.t 30)
    (.region [1, 3] [⟨(some 31), .mv (.t 3), none⟩,
      ⟨(some 32), .fieldA 6 (.t 1), none⟩,
      ⟨(some 33), .load none (.t 32), none⟩,
      ⟨(some 34), .call .view 319 [(.t 33)], none⟩,
      ⟨(some 35), .bin .add (.t 31) (.t 34), none⟩,
      ⟨(some 3), .mv (.t 35), none⟩])
    .skip))
  (.seq (.seq (.region [1, 3, 37] [⟨(some 36), .mv (.t 3), none⟩,
    ⟨(some 37), .bin .leq (.t 36) (.c (.int .i64 1048576)), none⟩])
  (.cond (.t 37)
    (.region [3] [⟨(some 38), .mv (.t 3), none⟩,
      ⟨(some 39), .fieldA 7 (.t 1), none⟩,
      ⟨(some 40), .load none (.t 39), none⟩,
      ⟨(some 41), .call .view 314 [(.t 40)], none⟩,
      ⟨(some 42), .bin .add (.t 38) (.t 41), none⟩,
      ⟨(some 3), .mv (.t 42), none⟩])
    .skip))
  (.seq (.region [2] [⟨(some 43), .mv (.t 3), none⟩,
    ⟨(some 2), .mv (.t 43), none⟩])
  .ret))))))))⟩

def x363L1 : XCode :=
  (.seq (.seq (.region [0, 3, 4, 12] [⟨(some 9), .mv (.t 4), none⟩,
    ⟨(some 10), .mv (.t 0), none⟩,
    ⟨(some 11), .len (.t 10), none⟩,
    ⟨(some 12), .bin .lss (.t 9) (.t 11), none⟩])
  (.cond (.t 12)
    .skip
    (.exit 0)))
  (.seq (.block 1 (.region [0, 3, 4] [⟨(some 15), .mv (.t 3), none⟩,
    ⟨(some 16), .mv (.t 0), none⟩,
    ⟨(some 17), .mv (.t 4), none⟩,
    ⟨(some 18), .idxA 2 (.t 16) (.t 17), none⟩,
    ⟨(some 19), .load (some 2) (.t 18), none⟩,
    ⟨(some 20), .buildSlice 2 [(.bool false), (.int .i64 0)] 1 [(0, 2, (.t 19))], none⟩,
    ⟨(some 21), .append 2 16 (.t 15) (.t 20), none⟩,
    ⟨(some 3), .mv (.t 21), none⟩]))
  (.region [0, 3, 4] [⟨(some 13), .mv (.t 4), none⟩,
    ⟨(some 14), .bin .add (.t 13) (.c (.int .i64 1)), none⟩,
    ⟨(some 4), .mv (.t 14), none⟩])))
/-- gearbox/gearboxlaw01.TwinCaps · 1 parameters, 0 captured -/
def x363 : XFun := ⟨[.tmp 2],
  (.seq (.region [0] [⟨(some 2), .mv (.c (.slice none 0 0)), none⟩])
  (.seq (.region [0, 3] [⟨(some 5), .mv (.t 0), none⟩,
    ⟨(some 6), .len (.t 5), none⟩,
    ⟨(some 7), .bin .add (.t 6) (.c (.int .i64 1)), none⟩,
    ⟨(some 8), .makeSlice 2 16 [(.bool false), (.int .i64 0)] (.c (.int .i64 0)) (.t 7), none⟩,
    ⟨(some 3), .mv (.t 8), none⟩])
  (.seq (.seq (.region [0, 3, 4] [⟨(some 4), .mv (.c (.int .i64 0)), none⟩])
  (.block 0 (.loop [0, 3, 4] x363L1)))
  (.seq (.region [2] [⟨(some 22), .mv (.t 3), none⟩,
    ⟨(some 23), .build [(.bool false), (.int .i64 0)] [(1, 1, (.c (.int .i64 7777)))], none⟩,
    ⟨(some 24), .buildSlice 2 [(.bool false), (.int .i64 0)] 1 [(0, 2, (.t 23))], none⟩,
    ⟨(some 25), .append 2 16 (.t 22) (.t 24), none⟩,
    ⟨(some 26), .mv (.t 0), none⟩,
    ⟨(some 27), .len (.t 26), none⟩,
    ⟨(some 28), .slice 2 (.t 25) none (some (.t 27)), none⟩,
    ⟨(some 2), .mv (.t 28), none⟩])
  .ret))))⟩

def x364L1 : XCode :=
  (.seq (.seq (.region [0, 3, 4, 12] [⟨(some 9), .mv (.t 4), none⟩,
    ⟨(some 10), .mv (.t 0), none⟩,
    ⟨(some 11), .len (.t 10), none⟩,
    ⟨(some 12), .bin .lss (.t 9) (.t 11), none⟩])
  (.cond (.t 12)
    .skip
    (.exit 0)))
  (.seq (.block 1 (.region [0, 3, 4] [⟨(some 15), .mv (.t 3), none⟩,
    ⟨(some 16), .mv (.t 0), none⟩,
    ⟨(some 17), .mv (.t 4), none⟩,
    ⟨(some 18), .idxA 3 (.t 16) (.t 17), none⟩,
    ⟨(some 19), .load (some 3) (.t 18), none⟩,
    ⟨(some 20), .buildSlice 3 [(.int .u8 0), (.int .i64 0), (.string .empty)] 1 [(0, 3, (.t 19))], none⟩,
    ⟨(some 21), .append 3 32 (.t 15) (.t 20), none⟩,
    ⟨(some 3), .mv (.t 21), none⟩]))
  (.region [0, 3, 4] [⟨(some 13), .mv (.t 4), none⟩,
    ⟨(some 14), .bin .add (.t 13) (.c (.int .i64 1)), none⟩,
    ⟨(some 4), .mv (.t 14), none⟩])))
/-- gearbox/gearboxlaw01.TwinConsts · 1 parameters, 0 captured -/
def x364 : XFun := ⟨[.tmp 2],
  (.seq (.region [0] [⟨(some 2), .mv (.c (.slice none 0 0)), none⟩])
  (.seq (.region [0, 3] [⟨(some 5), .mv (.t 0), none⟩,
    ⟨(some 6), .len (.t 5), none⟩,
    ⟨(some 7), .bin .add (.t 6) (.c (.int .i64 1)), none⟩,
    ⟨(some 8), .makeSlice 3 32 [(.int .u8 0), (.int .i64 0), (.string .empty)] (.c (.int .i64 0)) (.t 7), none⟩,
    ⟨(some 3), .mv (.t 8), none⟩])
  (.seq (.seq (.region [0, 3, 4] [⟨(some 4), .mv (.c (.int .i64 0)), none⟩])
  (.block 0 (.loop [0, 3, 4] x364L1)))
  (.seq (.region [2] [⟨(some 22), .mv (.t 3), none⟩,
    ⟨(some 23), .build [(.int .u8 0), (.int .i64 0), (.string .empty)] [(2, 1, (.c (.string ⟨#[115, 112, 97, 114, 101]⟩)))], none⟩,
    ⟨(some 24), .buildSlice 3 [(.int .u8 0), (.int .i64 0), (.string .empty)] 1 [(0, 3, (.t 23))], none⟩,
    ⟨(some 25), .append 3 32 (.t 22) (.t 24), none⟩,
    ⟨(some 26), .mv (.t 0), none⟩,
    ⟨(some 27), .len (.t 26), none⟩,
    ⟨(some 28), .slice 3 (.t 25) none (some (.t 27)), none⟩,
    ⟨(some 2), .mv (.t 28), none⟩])
  .ret))))⟩

def x370L1 : XCode :=
  (.seq (.seq (.region [0, 3, 4, 12] [⟨(some 9), .mv (.t 4), none⟩,
    ⟨(some 10), .mv (.t 0), none⟩,
    ⟨(some 11), .len (.t 10), none⟩,
    ⟨(some 12), .bin .lss (.t 9) (.t 11), none⟩])
  (.cond (.t 12)
    .skip
    (.exit 0)))
  (.seq (.block 1 (.region [0, 3, 4] [⟨(some 15), .mv (.t 3), none⟩,
    ⟨(some 16), .mv (.t 0), none⟩,
    ⟨(some 17), .mv (.t 4), none⟩,
    ⟨(some 18), .idxA 2 (.t 16) (.t 17), none⟩,
    ⟨(some 19), .load (some 2) (.t 18), none⟩,
    ⟨(some 20), .buildSlice 2 [(.int .u8 0), (.int .i64 0)] 1 [(0, 2, (.t 19))], none⟩,
    ⟨(some 21), .append 2 16 (.t 15) (.t 20), none⟩,
    ⟨(some 3), .mv (.t 21), none⟩]))
  (.region [0, 3, 4] [⟨(some 13), .mv (.t 4), none⟩,
    ⟨(some 14), .bin .add (.t 13) (.c (.int .i64 1)), none⟩,
    ⟨(some 4), .mv (.t 14), none⟩])))
/-- gearbox/gearboxlaw01.TwinInses · 1 parameters, 0 captured -/
def x370 : XFun := ⟨[.tmp 2],
  (.seq (.region [0] [⟨(some 2), .mv (.c (.slice none 0 0)), none⟩])
  (.seq (.region [0, 3] [⟨(some 5), .mv (.t 0), none⟩,
    ⟨(some 6), .len (.t 5), none⟩,
    ⟨(some 7), .bin .add (.t 6) (.c (.int .i64 1)), none⟩,
    ⟨(some 8), .makeSlice 2 16 [(.int .u8 0), (.int .i64 0)] (.c (.int .i64 0)) (.t 7), none⟩,
    ⟨(some 3), .mv (.t 8), none⟩])
  (.seq (.seq (.region [0, 3, 4] [⟨(some 4), .mv (.c (.int .i64 0)), none⟩])
  (.block 0 (.loop [0, 3, 4] x370L1)))
  (.seq (.region [2] [⟨(some 22), .mv (.t 3), none⟩,
    ⟨(some 23), .build [(.int .u8 0), (.int .i64 0)] [(1, 1, (.c (.int .i64 7777)))], none⟩,
    ⟨(some 24), .buildSlice 2 [(.int .u8 0), (.int .i64 0)] 1 [(0, 2, (.t 23))], none⟩,
    ⟨(some 25), .append 2 16 (.t 22) (.t 24), none⟩,
    ⟨(some 26), .mv (.t 0), none⟩,
    ⟨(some 27), .len (.t 26), none⟩,
    ⟨(some 28), .slice 2 (.t 25) none (some (.t 27)), none⟩,
    ⟨(some 2), .mv (.t 28), none⟩])
  .ret))))⟩

def x371L1 : XCode :=
  (.seq (.seq (.region [0, 3, 4, 12] [⟨(some 9), .mv (.t 4), none⟩,
    ⟨(some 10), .mv (.t 0), none⟩,
    ⟨(some 11), .len (.t 10), none⟩,
    ⟨(some 12), .bin .lss (.t 9) (.t 11), none⟩])
  (.cond (.t 12)
    .skip
    (.exit 0)))
  (.seq (.block 1 (.region [0, 3, 4] [⟨(some 15), .mv (.t 3), none⟩,
    ⟨(some 16), .mv (.t 0), none⟩,
    ⟨(some 17), .mv (.t 4), none⟩,
    ⟨(some 18), .idxA 1 (.t 16) (.t 17), none⟩,
    ⟨(some 19), .load none (.t 18), none⟩,
    ⟨(some 20), .buildSlice 1 [(.int .i64 0)] 1 [(0, 1, (.t 19))], none⟩,
    ⟨(some 21), .append 1 8 (.t 15) (.t 20), none⟩,
    ⟨(some 3), .mv (.t 21), none⟩]))
  (.region [0, 3, 4] [⟨(some 13), .mv (.t 4), none⟩,
    ⟨(some 14), .bin .add (.t 13) (.c (.int .i64 1)), none⟩,
    ⟨(some 4), .mv (.t 14), none⟩])))
/-- gearbox/gearboxlaw01.TwinInts · 1 parameters, 0 captured -/
def x371 : XFun := ⟨[.tmp 2],
  (.seq (.region [0] [⟨(some 2), .mv (.c (.slice none 0 0)), none⟩])
  (.seq (.region [0, 3] [⟨(some 5), .mv (.t 0), none⟩,
    ⟨(some 6), .len (.t 5), none⟩,
    ⟨(some 7), .bin .add (.t 6) (.c (.int .i64 1)), none⟩,
    ⟨(some 8), .makeSlice 1 8 [(.int .i64 0)] (.c (.int .i64 0)) (.t 7), none⟩,
    ⟨(some 3), .mv (.t 8), none⟩])
  (.seq (.seq (.region [0, 3, 4] [⟨(some 4), .mv (.c (.int .i64 0)), none⟩])
  (.block 0 (.loop [0, 3, 4] x371L1)))
  (.seq (.region [2] [⟨(some 22), .mv (.t 3), none⟩,
    ⟨(some 23), .buildSlice 1 [(.int .i64 0)] 1 [(0, 1, (.c (.int .i64 7777)))], none⟩,
    ⟨(some 24), .append 1 8 (.t 22) (.t 23), none⟩,
    ⟨(some 25), .mv (.t 0), none⟩,
    ⟨(some 26), .len (.t 25), none⟩,
    ⟨(some 27), .slice 1 (.t 24) none (some (.t 26)), none⟩,
    ⟨(some 2), .mv (.t 27), none⟩])
  .ret))))⟩

def x369L1 : XCode :=
  (.seq (.seq (.region [0, 3, 4, 12] [⟨(some 9), .mv (.t 4), none⟩,
    ⟨(some 10), .mv (.t 0), none⟩,
    ⟨(some 11), .len (.t 10), none⟩,
    ⟨(some 12), .bin .lss (.t 9) (.t 11), none⟩])
  (.cond (.t 12)
    .skip
    (.exit 0)))
  (.seq (.block 1 (.region [0, 3, 4] [⟨(some 15), .mv (.t 3), none⟩,
    ⟨(some 16), .mv (.t 0), none⟩,
    ⟨(some 17), .mv (.t 4), none⟩,
    ⟨(some 18), .idxA 4 (.t 16) (.t 17), none⟩,
    ⟨(some 19), .load (some 4) (.t 18), none⟩,
    ⟨(some 20), .buildSlice 4 [(.int .i64 0), (.int .i64 0), (.int .i64 0), (.int .i64 0)] 1 [(0, 4, (.t 19))], none⟩,
    ⟨(some 21), .append 4 32 (.t 15) (.t 20), none⟩,
    ⟨(some 3), .mv (.t 21), none⟩]))
  (.region [0, 3, 4] [⟨(some 13), .mv (.t 4), none⟩,
    ⟨(some 14), .bin .add (.t 13) (.c (.int .i64 1)), none⟩,
    ⟨(some 4), .mv (.t 14), none⟩])))
/-- gearbox/gearboxlaw01.TwinHandlers · 1 parameters, 0 captured -/
def x369 : XFun := ⟨[.tmp 2],
  (.seq (.region [0] [⟨(some 2), .mv (.c (.slice none 0 0)), none⟩])
  (.seq (.region [0, 3] [⟨(some 5), .mv (.t 0), none⟩,
    ⟨(some 6), .len (.t 5), none⟩,
    ⟨(some 7), .bin .add (.t 6) (.c (.int .i64 1)), none⟩,
    ⟨(some 8), .makeSlice 4 32 [(.int .i64 0), (.int .i64 0), (.int .i64 0), (.int .i64 0)] (.c (.int .i64 0)) (.t 7), none⟩,
    ⟨(some 3), .mv (.t 8), none⟩])
  (.seq (.seq (.region [0, 3, 4] [⟨(some 4), .mv (.c (.int .i64 0)), none⟩])
  (.block 0 (.loop [0, 3, 4] x369L1)))
  (.seq (.region [2] [⟨(some 22), .mv (.t 3), none⟩,
    ⟨(some 23), .build [(.int .i64 0), (.int .i64 0), (.int .i64 0), (.int .i64 0)] [(2, 1, (.c (.int .i64 7777)))], none⟩,
    ⟨(some 24), .buildSlice 4 [(.int .i64 0), (.int .i64 0), (.int .i64 0), (.int .i64 0)] 1 [(0, 4, (.t 23))], none⟩,
    ⟨(some 25), .append 4 32 (.t 22) (.t 24), none⟩,
    ⟨(some 26), .mv (.t 0), none⟩,
    ⟨(some 27), .len (.t 26), none⟩,
    ⟨(some 28), .slice 4 (.t 25) none (some (.t 27)), none⟩,
    ⟨(some 2), .mv (.t 28), none⟩])
  .ret))))⟩

/-- (*gearbox/verify.checker).head$1 · 1 parameters, 0 captured -/
def x252 : XFun := ⟨[.tmp 2],
  (.seq (.region [1] [⟨(some 1), .box 3 (.t 0), none⟩,
    ⟨(some 2), .mv (.c (.bool false)), none⟩])
  (.seq (.region [2] [⟨(some 3), .fieldA 0 (.t 1), none⟩,
    ⟨(some 4), .load none (.t 3), none⟩,
    ⟨(some 5), .bin .eql (.t 4) (.c (.int .u8 2)), none⟩,
    ⟨(some 6), .mv (.t 5), none⟩,
    ⟨(some 7), .fieldA 2 (.t 1), some (6, true)⟩,
    ⟨(some 8), .load none (.t 7), some (6, true)⟩,
    ⟨(some 9), .bin .eql (.t 8) (.c (.string .empty)), some (6, true)⟩,
    ⟨(some 10), .pick (.t 6) (.t 9) (.c (.bool false)), none⟩,
    ⟨(some 11), .mv (.t 10), none⟩,
    ⟨(some 12), .fieldA 0 (.t 1), some (11, false)⟩,
    ⟨(some 13), .load none (.t 12), some (11, false)⟩,
    ⟨(some 14), .bin .eql (.t 13) (.c (.int .u8 3)), some (11, false)⟩,
    ⟨(some 15), .mv (.t 14), some (11, false)⟩,
    ⟨(some 16), .fieldA 1 (.t 1), some (15, true)⟩,
    ⟨(some 17), .load none (.t 16), some (15, true)⟩,
    ⟨(some 18), .bin .eql (.t 17) (.c (.int .i64 0)), some (15, true)⟩,
    ⟨(some 19), .pick (.t 15) (.t 18) (.c (.bool false)), some (11, false)⟩,
    ⟨(some 20), .mv (.t 19), some (11, false)⟩,
    ⟨(some 21), .fieldA 2 (.t 1), some (20, true)⟩,
    ⟨(some 22), .load none (.t 21), some (20, true)⟩,
    ⟨(some 23), .lenS (.t 22), some (20, true)⟩,
    ⟨(some 24), .bin .leq (.t 23) (.c (.int .i64 4096)), some (20, true)⟩,
    ⟨(some 25), .pick (.t 20) (.t 24) (.c (.bool false)), some (11, false)⟩,
    ⟨(some 26), .pick (.t 11) (.c (.bool true)) (.t 25), none⟩,
    ⟨(some 2), .mv (.t 26), none⟩])
  .ret))⟩

/-- (*gearbox/verify.checker).head$2 · 1 parameters, 1 captured -/
def x253 : XFun := ⟨[.tmp 3],
  (.seq (.region [1, 2] [⟨(some 2), .box 4 (.t 0), none⟩,
    ⟨(some 3), .mv (.c (.bool false)), none⟩])
  (.seq (.region [3] [⟨(some 4), .fieldA 0 (.t 2), none⟩,
    ⟨(some 5), .load none (.t 4), none⟩,
    ⟨(some 6), .bin .geq (.t 5) (.c (.int .i64 0)), none⟩,
    ⟨(some 7), .mv (.t 6), none⟩,
    ⟨(some 8), .fieldA 0 (.t 2), some (7, true)⟩,
    ⟨(some 9), .load none (.t 8), some (7, true)⟩,
    ⟨(some 10), .fieldA 1 (.t 2), some (7, true)⟩,
    ⟨(some 11), .load none (.t 10), some (7, true)⟩,
    ⟨(some 12), .bin .lss (.t 9) (.t 11), some (7, true)⟩,
    ⟨(some 13), .pick (.t 7) (.t 12) (.c (.bool false)), none⟩,
    ⟨(some 14), .mv (.t 13), none⟩,
    ⟨(some 15), .fieldA 1 (.t 2), some (14, true)⟩,
    ⟨(some 16), .load none (.t 15), some (14, true)⟩,
    ⟨(some 17), .fieldA 2 (.t 2), some (14, true)⟩,
    ⟨(some 18), .load none (.t 17), some (14, true)⟩,
    ⟨(some 19), .bin .leq (.t 16) (.t 18), some (14, true)⟩,
    ⟨(some 20), .pick (.t 14) (.t 19) (.c (.bool false)), none⟩,
    ⟨(some 21), .mv (.t 20), none⟩,
    ⟨(some 22), .fieldA 2 (.t 2), some (21, true)⟩,
    ⟨(some 23), .load none (.t 22), some (21, true)⟩,
    ⟨(some 24), .load none (.t 1), some (21, true)⟩,
    ⟨(some 25), .bin .lss (.t 23) (.t 24), some (21, true)⟩,
    ⟨(some 26), .pick (.t 21) (.t 25) (.c (.bool false)), none⟩,
    ⟨(some 27), .mv (.t 26), none⟩,
    ⟨(some 28), .fieldA 3 (.t 2), some (27, true)⟩,
    ⟨(some 29), .load none (.t 28), some (27, true)⟩,
    ⟨(some 30), .call .view 660 [(.t 29), (.c (.int .i64 0)), (.c (.int .i64 256))], some (27, true)⟩,
    ⟨(some 31), .pick (.t 27) (.t 30) (.c (.bool false)), none⟩,
    ⟨(some 3), .mv (.t 31), none⟩])
  .ret))⟩

/-- slices.ContainsFunc[[]gearbox/api.Const,gearbox/api.Const] · 2 parameters, 0 captured -/
def x747 : XFun := ⟨[.tmp 4],
  (.seq (.region [0, 1] [⟨(some 4), .mv (.c (.bool false)), none⟩])
  (.seq (.region [4] [⟨(some 5), .mv (.t 0), none⟩,
    ⟨(some 6), .mv (.t 1), none⟩,
    ⟨(some 7), .call .share 757 [(.t 5), (.t 6)], none⟩,
    ⟨(some 8), .bin .geq (.t 7) (.c (.int .i64 0)), none⟩,
    ⟨(some 4), .mv (.t 8), none⟩])
  .ret))⟩

/-- (*gearbox/verify.checker).head$3 · 1 parameters, 1 captured -/
def x254 : XFun := ⟨[.tmp 3],
  (.seq (.region [1, 2] [⟨(some 2), .box 3 (.t 0), none⟩,
    ⟨(some 3), .mv (.c (.bool false)), none⟩])
  (.seq (.region [3] [⟨(some 4), .load none (.t 1), none⟩,
    ⟨(some 5), .load (some 3) (.t 2), none⟩,
    ⟨(some 6), .callV (.t 4) [(.t 5)], none⟩,
    ⟨(some 7), .un .not (.t 6), none⟩,
    ⟨(some 3), .mv (.t 7), none⟩])
  .ret))⟩

/-- slices.ContainsFunc[[]int,int] · 2 parameters, 0 captured -/
def x750 : XFun := ⟨[.tmp 4],
  (.seq (.region [0, 1] [⟨(some 4), .mv (.c (.bool false)), none⟩])
  (.seq (.region [4] [⟨(some 5), .mv (.t 0), none⟩,
    ⟨(some 6), .mv (.t 1), none⟩,
    ⟨(some 7), .call .view 760 [(.t 5), (.t 6)], none⟩,
    ⟨(some 8), .bin .geq (.t 7) (.c (.int .i64 0)), none⟩,
    ⟨(some 4), .mv (.t 8), none⟩])
  .ret))⟩

/-- (*gearbox/verify.checker).head$4 · 1 parameters, 0 captured -/
def x255 : XFun := ⟨[.tmp 2],
  (.seq (.region [0] [⟨(some 2), .mv (.c (.bool false)), none⟩])
  (.seq (.region [2] [⟨(some 3), .mv (.t 0), none⟩,
    ⟨(some 4), .bin .lss (.t 3) (.c (.int .i64 0)), none⟩,
    ⟨(some 2), .mv (.t 4), none⟩])
  .ret))⟩

/-- slices.ContainsFunc[[]gearbox/api.Handler,gearbox/api.Handler] · 2 parameters, 0 captured -/
def x748 : XFun := ⟨[.tmp 4],
  (.seq (.region [0, 1] [⟨(some 4), .mv (.c (.bool false)), none⟩])
  (.seq (.region [4] [⟨(some 5), .mv (.t 0), none⟩,
    ⟨(some 6), .mv (.t 1), none⟩,
    ⟨(some 7), .call .share 758 [(.t 5), (.t 6)], none⟩,
    ⟨(some 8), .bin .geq (.t 7) (.c (.int .i64 0)), none⟩,
    ⟨(some 4), .mv (.t 8), none⟩])
  .ret))⟩

/-- (*gearbox/verify.checker).head$5 · 1 parameters, 1 captured -/
def x256 : XFun := ⟨[.tmp 3],
  (.seq (.region [1, 2] [⟨(some 2), .box 4 (.t 0), none⟩,
    ⟨(some 3), .mv (.c (.bool false)), none⟩])
  (.seq (.region [3] [⟨(some 4), .load none (.t 1), none⟩,
    ⟨(some 5), .load (some 4) (.t 2), none⟩,
    ⟨(some 6), .callV (.t 4) [(.t 5)], none⟩,
    ⟨(some 7), .un .not (.t 6), none⟩,
    ⟨(some 3), .mv (.t 7), none⟩])
  .ret))⟩

/-- (*gearbox/verify.checker).numbered · 3 parameters, 0 captured -/
def x259 : XFun := ⟨[.tmp 6],
  (.seq (.region [0, 2, 4] [⟨(some 4), .box 8 (.t 1), none⟩,
    ⟨(some 6), .mv (.c (.bool false)), none⟩])
  (.seq (.region [0, 2, 4, 7] [⟨(some 8), .fieldA 5 (.t 4), none⟩,
    ⟨(some 9), .load none (.t 8), none⟩,
    ⟨(some 10), .mv (.t 2), none⟩,
    ⟨(some 11), .idxA 2 (.t 9) (.t 10), none⟩,
    ⟨(some 12), .load (some 2) (.t 11), none⟩,
    ⟨(some 7), .alloc [(.int .u8 0), (.int .i64 0)], none⟩,
    ⟨none, .store 2 (.t 7) (.t 12), none⟩])
  (.seq (.seq (.region [0, 2, 4, 7, 17] [⟨(some 13), .fieldA 0 (.t 7), none⟩,
    ⟨(some 14), .load none (.t 13), none⟩,
    ⟨(some 15), .conv .i64 (.t 14), none⟩,
    ⟨(some 16), .call .view 660 [(.t 15), (.c (.int .i64 1)), (.c (.int .i64 31))], none⟩,
    ⟨(some 17), .un .not (.t 16), none⟩])
  (.cond (.t 17)
    (.seq (.region [6] [⟨(some 6), .mv (.c (.bool false)), none⟩])
    .ret)
    .skip))
  (.seq (.seq (.region [0, 2, 4, 7, 25] [⟨(some 18), .mv (.t 0), none⟩,
    ⟨(some 19), .fieldA 0 (.t 7), none⟩,
    ⟨(some 20), .load none (.t 19), none⟩,
    ⟨(some 21), .nilCheck (.t 18), none⟩,
    ⟨(some 22), .fieldA 1 (.t 21), none⟩,
    ⟨(some 23), .idxP 31 4 (.t 22) (.t 20), none⟩,
    ⟨(some 24), .fieldA 0 (.t 23), none⟩,
    ⟨(some 25), .load none (.t 24), none⟩])
  (.block 0 (.seq (.region [0, 2, 4, 7, 25, 26] [⟨(some 27), .bin .eql (.t 25) (.c (.int .u8 1)), none⟩,
    ⟨(some 26), .mv (.t 27), none⟩])
  (.cond (.t 26)
    (.seq (.region [6] [⟨(some 28), .fieldA 1 (.t 7), none⟩,
      ⟨(some 29), .load none (.t 28), none⟩,
      ⟨(some 30), .fieldA 4 (.t 4), none⟩,
      ⟨(some 31), .load none (.t 30), none⟩,
      ⟨(some 32), .len (.t 31), none⟩,
      ⟨(some 33), .call .view 660 [(.t 29), (.c (.int .i64 0)), (.t 32)], none⟩,
      ⟨(some 6), .mv (.t 33), none⟩])
    .ret)
    (.seq (.region [0, 2, 4, 7, 25, 34] [⟨(some 35), .bin .eql (.t 25) (.c (.int .u8 2)), none⟩,
      ⟨(some 34), .mv (.t 35), none⟩])
    (.cond (.t 34)
      (.seq (.region [6] [⟨(some 36), .fieldA 1 (.t 7), none⟩,
        ⟨(some 37), .load none (.t 36), none⟩,
        ⟨(some 38), .fieldA 2 (.t 4), none⟩,
        ⟨(some 39), .load none (.t 38), none⟩,
        ⟨(some 40), .call .view 660 [(.t 37), (.c (.int .i64 0)), (.t 39)], none⟩,
        ⟨(some 6), .mv (.t 40), none⟩])
      .ret)
      (.seq (.region [0, 2, 4, 7, 25, 41] [⟨(some 42), .bin .eql (.t 25) (.c (.int .u8 3)), none⟩,
        ⟨(some 41), .mv (.t 42), none⟩])
      (.cond (.t 41)
        (.seq (.region [6] [⟨(some 43), .fieldA 1 (.t 7), none⟩,
          ⟨(some 44), .load none (.t 43), none⟩,
          ⟨(some 45), .fieldA 3 (.t 4), none⟩,
          ⟨(some 46), .load none (.t 45), none⟩,
          ⟨(some 47), .len (.t 46), none⟩,
          ⟨(some 48), .call .view 660 [(.t 44), (.c (.int .i64 0)), (.t 47)], none⟩,
          ⟨(some 6), .mv (.t 48), none⟩])
        .ret)
        (.seq (.region [0, 2, 4, 7, 25, 49] [⟨(some 50), .bin .eql (.t 25) (.c (.int .u8 4)), none⟩,
          ⟨(some 49), .mv (.t 50), none⟩])
        (.cond (.t 49)
          (.seq (.region [6] [⟨(some 51), .fieldA 1 (.t 7), none⟩,
            ⟨(some 52), .load none (.t 51), none⟩,
            ⟨(some 53), .call .view 660 [(.t 52), (.c (.int .i64 1)), (.c (.int .i64 10))], none⟩,
            ⟨(some 6), .mv (.t 53), none⟩])
          .ret)
          (.seq (.region [0, 2, 4, 7, 25, 54] [⟨(some 55), .bin .eql (.t 25) (.c (.int .u8 5)), none⟩,
            ⟨(some 54), .mv (.t 55), none⟩])
          (.cond (.t 54)
            (.seq (.region [6] [⟨(some 56), .fieldA 1 (.t 7), none⟩,
              ⟨(some 57), .load none (.t 56), none⟩,
              ⟨(some 58), .mv (.t 2), none⟩,
              ⟨(some 59), .bin .add (.t 58) (.c (.int .i64 1)), none⟩,
              ⟨(some 60), .fieldA 5 (.t 4), none⟩,
              ⟨(some 61), .load none (.t 60), none⟩,
              ⟨(some 62), .len (.t 61), none⟩,
              ⟨(some 63), .call .view 660 [(.t 57), (.t 59), (.t 62)], none⟩,
              ⟨(some 6), .mv (.t 63), none⟩])
            .ret)
            (.seq (.region [0, 2, 7, 25, 64] [⟨(some 65), .bin .eql (.t 25) (.c (.int .u8 6)), none⟩,
              ⟨(some 64), .mv (.t 65), none⟩])
            (.cond (.t 64)
              (.seq (.region [6] [⟨(some 66), .fieldA 1 (.t 7), none⟩,
                ⟨(some 67), .load none (.t 66), none⟩,
                ⟨(some 68), .mv (.t 2), none⟩,
                ⟨(some 69), .bin .add (.t 68) (.c (.int .i64 1)), none⟩,
                ⟨(some 70), .call .view 660 [(.t 67), (.c (.int .i64 0)), (.t 69)], none⟩,
                ⟨(some 6), .mv (.t 70), none⟩])
              .ret)
              (.seq (.region [0, 7, 25, 71] [⟨(some 72), .bin .eql (.t 25) (.c (.int .u8 7)), none⟩,
                ⟨(some 71), .mv (.t 72), none⟩])
              (.cond (.t 71)
                (.seq (.region [6] [⟨(some 73), .fieldA 1 (.t 7), none⟩,
                  ⟨(some 74), .load none (.t 73), none⟩,
                  ⟨(some 75), .call .view 660 [(.t 74), (.c (.int .i64 0)), (.c (.int .i64 257))], none⟩,
                  ⟨(some 6), .mv (.t 75), none⟩])
                .ret)
                (.seq (.region [0, 7, 76] [⟨(some 77), .bin .eql (.t 25) (.c (.int .u8 8)), none⟩,
                  ⟨(some 76), .mv (.t 77), none⟩])
                (.cond (.t 76)
                  (.seq (.region [6] [⟨(some 78), .fieldA 1 (.t 7), none⟩,
                    ⟨(some 79), .load none (.t 78), none⟩,
                    ⟨(some 80), .mv (.t 0), none⟩,
                    ⟨(some 81), .nilCheck (.t 80), none⟩,
                    ⟨(some 82), .fieldA 0 (.t 81), none⟩,
                    ⟨(some 83), .load none (.t 82), none⟩,
                    ⟨(some 84), .len (.t 83), none⟩,
                    ⟨(some 85), .call .view 660 [(.t 79), (.c (.int .i64 1)), (.t 84)], none⟩,
                    ⟨(some 6), .mv (.t 85), none⟩])
                  .ret)
                  .skip))))))))))))))))))
  (.seq (.region [6] [⟨(some 86), .fieldA 1 (.t 7), none⟩,
    ⟨(some 87), .load none (.t 86), none⟩,
    ⟨(some 88), .bin .eql (.t 87) (.c (.int .i64 0)), none⟩,
    ⟨(some 6), .mv (.t 88), none⟩])
  .ret)))))⟩

/-- (*gearbox/verify.checker).makes · 3 parameters, 0 captured -/
def x257 : XFun := ⟨[.tmp 6],
  (.seq (.region [0, 1, 2] [⟨(some 6), .mv (.c (.bool false)), none⟩])
  (.seq (.region [0, 1, 2, 7] [⟨(some 10), .mv (.t 0), none⟩,
    ⟨(some 11), .nilCheck (.t 10), none⟩,
    ⟨(some 12), .fieldA 0 (.t 11), none⟩,
    ⟨(some 13), .load none (.t 12), none⟩,
    ⟨(some 14), .mv (.t 1), none⟩,
    ⟨(some 15), .idxA 8 (.t 13) (.t 14), none⟩,
    ⟨(some 16), .load (some 8) (.t 15), none⟩,
    ⟨(some 7), .alloc [(.string .empty), (.int .i64 0), (.int .i64 0), (.slice none 0 0), (.slice none 0 0), (.slice none 0 0), (.slice none 0 0), (.slice none 0 0)], none⟩,
    ⟨none, .store 8 (.t 7) (.t 16), none⟩])
  (.seq (.seq (.region [0, 1, 2, 7, 8, 9] [⟨(some 18), .mv (.t 0), none⟩,
    ⟨(some 19), .nilCheck (.t 18), none⟩,
    ⟨(some 20), .fieldA 125 (.t 19), none⟩,
    ⟨(some 21), .load none (.t 20), none⟩,
    ⟨(some 22), .mv (.t 2), none⟩,
    ⟨(some 23), .lookup 0 [(.int .i64 0)] false (.t 21) (.t 22) true, none⟩,
    ⟨(some 17), .mv (.t 23), none⟩,
    ⟨(some 24), .extract (.t 17) 0, none⟩,
    ⟨(some 25), .extract (.t 17) 1, none⟩,
    ⟨(some 8), .mv (.t 24), none⟩,
    ⟨(some 9), .mv (.t 25), none⟩])
  (.seq (.region [0, 1, 2, 7, 31] [⟨(some 26), .mv (.t 9), none⟩,
    ⟨(some 27), .mv (.t 26), none⟩,
    ⟨(some 28), .mv (.t 8), some (27, true)⟩,
    ⟨(some 29), .mv (.t 1), some (27, true)⟩,
    ⟨(some 30), .bin .neq (.t 28) (.t 29), some (27, true)⟩,
    ⟨(some 31), .pick (.t 27) (.t 30) (.c (.bool false)), none⟩])
  (.cond (.t 31)
    (.seq (.region [6] [⟨(some 6), .mv (.c (.bool false)), none⟩])
    .ret)
    .skip)))
  (.seq (.region [0, 2, 7] [⟨(some 32), .mv (.t 0), none⟩,
    ⟨(some 33), .nilCheck (.t 32), none⟩,
    ⟨(some 34), .fieldA 125 (.t 33), none⟩,
    ⟨(some 35), .load none (.t 34), none⟩,
    ⟨(some 36), .mv (.t 2), none⟩,
    ⟨(some 37), .mv (.t 1), none⟩,
    ⟨none, .mapSet 0 (.t 35) (.t 36) (.t 37), none⟩])
  (.seq (.region [6] [⟨(some 38), .mv (.t 0), none⟩,
    ⟨(some 39), .nilCheck (.t 38), none⟩,
    ⟨(some 40), .fieldA 0 (.t 39), none⟩,
    ⟨(some 41), .load none (.t 40), none⟩,
    ⟨(some 42), .mv (.t 2), none⟩,
    ⟨(some 43), .idxA 8 (.t 41) (.t 42), none⟩,
    ⟨(some 44), .fieldA 3 (.t 43), none⟩,
    ⟨(some 45), .load none (.t 44), none⟩,
    ⟨(some 46), .mkClo 258 [(.t 7)], none⟩,
    ⟨(some 47), .call .view 746 [(.t 45), (.t 46)], none⟩,
    ⟨(some 48), .un .not (.t 47), none⟩,
    ⟨(some 6), .mv (.t 48), none⟩])
  .ret)))))⟩

def x320L1 : XCode :=
  (.seq (.seq (.region [0, 1, 5, 22] [⟨(some 19), .mv (.t 5), none⟩,
    ⟨(some 20), .mv (.t 1), none⟩,
    ⟨(some 21), .len (.t 20), none⟩,
    ⟨(some 22), .bin .lss (.t 19) (.t 21), none⟩])
  (.cond (.t 22)
    .skip
    (.exit 0)))
  (.seq (.block 1 (.seq (.region [0, 1, 5, 33] [⟨(some 25), .mv (.t 0), none⟩,
    ⟨(some 26), .mv (.t 5), none⟩,
    ⟨(some 27), .idxA 2 (.t 25) (.t 26), none⟩,
    ⟨(some 28), .load (some 2) (.t 27), none⟩,
    ⟨(some 29), .mv (.t 1), none⟩,
    ⟨(some 30), .mv (.t 5), none⟩,
    ⟨(some 31), .idxA 2 (.t 29) (.t 30), none⟩,
    ⟨(some 32), .load (some 2) (.t 31), none⟩,
    ⟨(some 33), .eqCells true [1, 0] (.t 28) (.t 32), none⟩])
  (.cond (.t 33)
    (.seq (.region [4] [⟨(some 4), .mv (.c (.bool false)), none⟩])
    .ret)
    .skip)))
  (.region [0, 1, 5] [⟨(some 23), .mv (.t 5), none⟩,
    ⟨(some 24), .bin .add (.t 23) (.c (.int .i64 1)), none⟩,
    ⟨(some 5), .mv (.t 24), none⟩])))
/-- gearbox/gearboxlaw01.LeftCaps · 2 parameters, 0 captured -/
def x320 : XFun := ⟨[.tmp 4],
  (.seq (.region [0, 1] [⟨(some 4), .mv (.c (.bool false)), none⟩])
  (.seq (.seq (.region [0, 1, 18] [⟨(some 7), .mv (.t 0), none⟩,
    ⟨(some 8), .len (.t 7), none⟩,
    ⟨(some 9), .mv (.t 1), none⟩,
    ⟨(some 10), .len (.t 9), none⟩,
    ⟨(some 11), .bin .neq (.t 8) (.t 10), none⟩,
    ⟨(some 12), .mv (.t 11), none⟩,
    ⟨(some 13), .mv (.t 0), some (12, false)⟩,
    ⟨(some 14), .cap (.t 13), some (12, false)⟩,
    ⟨(some 15), .mv (.t 1), some (12, false)⟩,
    ⟨(some 16), .len (.t 15), some (12, false)⟩,
    ⟨(some 17), .bin .leq (.t 14) (.t 16), some (12, false)⟩,
    ⟨(some 18), .pick (.t 12) (.c (.bool true)) (.t 17), none⟩])
  (.cond (.t 18)
    (.seq (.region [4] [⟨(some 4), .mv (.c (.bool false)), none⟩])
    .ret)
    .skip))
  (.seq (.seq (.region [0, 1, 5] [⟨(some 5), .mv (.c (.int .i64 0)), none⟩])
  (.block 0 (.loop [0, 1, 5] x320L1)))
  (.seq (.region [6] [⟨(some 34), .mv (.t 0), none⟩,
    ⟨(some 35), .mv (.t 1), none⟩,
    ⟨(some 36), .len (.t 35), none⟩,
    ⟨(some 37), .bin .add (.t 36) (.c (.int .i64 1)), none⟩,
    ⟨(some 38), .slice 2 (.t 34) none (some (.t 37)), none⟩,
    ⟨(some 39), .mv (.t 1), none⟩,
    ⟨(some 40), .len (.t 39), none⟩,
    ⟨(some 41), .idxA 2 (.t 38) (.t 40), none⟩,
    ⟨(some 42), .load (some 2) (.t 41), none⟩,
    ⟨(some 6), .alloc [(.bool false), (.int .i64 0)], none⟩,
    ⟨none, .store 2 (.t 6) (.t 42), none⟩])
  (.seq (.region [4] [⟨(some 43), .fieldA 1 (.t 6), none⟩,
    ⟨(some 44), .load none (.t 43), none⟩,
    ⟨(some 45), .bin .eql (.t 44) (.c (.int .i64 7777)), none⟩,
    ⟨(some 4), .mv (.t 45), none⟩])
  .ret)))))⟩

def x321L1 : XCode :=
  (.seq (.seq (.region [0, 1, 5, 22] [⟨(some 19), .mv (.t 5), none⟩,
    ⟨(some 20), .mv (.t 1), none⟩,
    ⟨(some 21), .len (.t 20), none⟩,
    ⟨(some 22), .bin .lss (.t 19) (.t 21), none⟩])
  (.cond (.t 22)
    .skip
    (.exit 0)))
  (.seq (.block 1 (.seq (.region [0, 1, 5, 33] [⟨(some 25), .mv (.t 0), none⟩,
    ⟨(some 26), .mv (.t 5), none⟩,
    ⟨(some 27), .idxA 3 (.t 25) (.t 26), none⟩,
    ⟨(some 28), .load (some 3) (.t 27), none⟩,
    ⟨(some 29), .mv (.t 1), none⟩,
    ⟨(some 30), .mv (.t 5), none⟩,
    ⟨(some 31), .idxA 3 (.t 29) (.t 30), none⟩,
    ⟨(some 32), .load (some 3) (.t 31), none⟩,
    ⟨(some 33), .eqCells true [0, 0, 2] (.t 28) (.t 32), none⟩])
  (.cond (.t 33)
    (.seq (.region [4] [⟨(some 4), .mv (.c (.bool false)), none⟩])
    .ret)
    .skip)))
  (.region [0, 1, 5] [⟨(some 23), .mv (.t 5), none⟩,
    ⟨(some 24), .bin .add (.t 23) (.c (.int .i64 1)), none⟩,
    ⟨(some 5), .mv (.t 24), none⟩])))
/-- gearbox/gearboxlaw01.LeftConsts · 2 parameters, 0 captured -/
def x321 : XFun := ⟨[.tmp 4],
  (.seq (.region [0, 1] [⟨(some 4), .mv (.c (.bool false)), none⟩])
  (.seq (.seq (.region [0, 1, 18] [⟨(some 7), .mv (.t 0), none⟩,
    ⟨(some 8), .len (.t 7), none⟩,
    ⟨(some 9), .mv (.t 1), none⟩,
    ⟨(some 10), .len (.t 9), none⟩,
    ⟨(some 11), .bin .neq (.t 8) (.t 10), none⟩,
    ⟨(some 12), .mv (.t 11), none⟩,
    ⟨(some 13), .mv (.t 0), some (12, false)⟩,
    ⟨(some 14), .cap (.t 13), some (12, false)⟩,
    ⟨(some 15), .mv (.t 1), some (12, false)⟩,
    ⟨(some 16), .len (.t 15), some (12, false)⟩,
    ⟨(some 17), .bin .leq (.t 14) (.t 16), some (12, false)⟩,
    ⟨(some 18), .pick (.t 12) (.c (.bool true)) (.t 17), none⟩])
  (.cond (.t 18)
    (.seq (.region [4] [⟨(some 4), .mv (.c (.bool false)), none⟩])
    .ret)
    .skip))
  (.seq (.seq (.region [0, 1, 5] [⟨(some 5), .mv (.c (.int .i64 0)), none⟩])
  (.block 0 (.loop [0, 1, 5] x321L1)))
  (.seq (.region [6] [⟨(some 34), .mv (.t 0), none⟩,
    ⟨(some 35), .mv (.t 1), none⟩,
    ⟨(some 36), .len (.t 35), none⟩,
    ⟨(some 37), .bin .add (.t 36) (.c (.int .i64 1)), none⟩,
    ⟨(some 38), .slice 3 (.t 34) none (some (.t 37)), none⟩,
    ⟨(some 39), .mv (.t 1), none⟩,
    ⟨(some 40), .len (.t 39), none⟩,
    ⟨(some 41), .idxA 3 (.t 38) (.t 40), none⟩,
    ⟨(some 42), .load (some 3) (.t 41), none⟩,
    ⟨(some 6), .alloc [(.int .u8 0), (.int .i64 0), (.string .empty)], none⟩,
    ⟨none, .store 3 (.t 6) (.t 42), none⟩])
  (.seq (.region [4] [⟨(some 43), .fieldA 2 (.t 6), none⟩,
    ⟨(some 44), .load none (.t 43), none⟩,
    ⟨(some 45), .bin .eql (.t 44) (.c (.string ⟨#[115, 112, 97, 114, 101]⟩)), none⟩,
    ⟨(some 4), .mv (.t 45), none⟩])
  .ret)))))⟩

def x327L1 : XCode :=
  (.seq (.seq (.region [0, 1, 5, 22] [⟨(some 19), .mv (.t 5), none⟩,
    ⟨(some 20), .mv (.t 1), none⟩,
    ⟨(some 21), .len (.t 20), none⟩,
    ⟨(some 22), .bin .lss (.t 19) (.t 21), none⟩])
  (.cond (.t 22)
    .skip
    (.exit 0)))
  (.seq (.block 1 (.seq (.region [0, 1, 5, 33] [⟨(some 25), .mv (.t 0), none⟩,
    ⟨(some 26), .mv (.t 5), none⟩,
    ⟨(some 27), .idxA 2 (.t 25) (.t 26), none⟩,
    ⟨(some 28), .load (some 2) (.t 27), none⟩,
    ⟨(some 29), .mv (.t 1), none⟩,
    ⟨(some 30), .mv (.t 5), none⟩,
    ⟨(some 31), .idxA 2 (.t 29) (.t 30), none⟩,
    ⟨(some 32), .load (some 2) (.t 31), none⟩,
    ⟨(some 33), .eqCells true [0, 0] (.t 28) (.t 32), none⟩])
  (.cond (.t 33)
    (.seq (.region [4] [⟨(some 4), .mv (.c (.bool false)), none⟩])
    .ret)
    .skip)))
  (.region [0, 1, 5] [⟨(some 23), .mv (.t 5), none⟩,
    ⟨(some 24), .bin .add (.t 23) (.c (.int .i64 1)), none⟩,
    ⟨(some 5), .mv (.t 24), none⟩])))
/-- gearbox/gearboxlaw01.LeftInses · 2 parameters, 0 captured -/
def x327 : XFun := ⟨[.tmp 4],
  (.seq (.region [0, 1] [⟨(some 4), .mv (.c (.bool false)), none⟩])
  (.seq (.seq (.region [0, 1, 18] [⟨(some 7), .mv (.t 0), none⟩,
    ⟨(some 8), .len (.t 7), none⟩,
    ⟨(some 9), .mv (.t 1), none⟩,
    ⟨(some 10), .len (.t 9), none⟩,
    ⟨(some 11), .bin .neq (.t 8) (.t 10), none⟩,
    ⟨(some 12), .mv (.t 11), none⟩,
    ⟨(some 13), .mv (.t 0), some (12, false)⟩,
    ⟨(some 14), .cap (.t 13), some (12, false)⟩,
    ⟨(some 15), .mv (.t 1), some (12, false)⟩,
    ⟨(some 16), .len (.t 15), some (12, false)⟩,
    ⟨(some 17), .bin .leq (.t 14) (.t 16), some (12, false)⟩,
    ⟨(some 18), .pick (.t 12) (.c (.bool true)) (.t 17), none⟩])
  (.cond (.t 18)
    (.seq (.region [4] [⟨(some 4), .mv (.c (.bool false)), none⟩])
    .ret)
    .skip))
  (.seq (.seq (.region [0, 1, 5] [⟨(some 5), .mv (.c (.int .i64 0)), none⟩])
  (.block 0 (.loop [0, 1, 5] x327L1)))
  (.seq (.region [6] [⟨(some 34), .mv (.t 0), none⟩,
    ⟨(some 35), .mv (.t 1), none⟩,
    ⟨(some 36), .len (.t 35), none⟩,
    ⟨(some 37), .bin .add (.t 36) (.c (.int .i64 1)), none⟩,
    ⟨(some 38), .slice 2 (.t 34) none (some (.t 37)), none⟩,
    ⟨(some 39), .mv (.t 1), none⟩,
    ⟨(some 40), .len (.t 39), none⟩,
    ⟨(some 41), .idxA 2 (.t 38) (.t 40), none⟩,
    ⟨(some 42), .load (some 2) (.t 41), none⟩,
    ⟨(some 6), .alloc [(.int .u8 0), (.int .i64 0)], none⟩,
    ⟨none, .store 2 (.t 6) (.t 42), none⟩])
  (.seq (.region [4] [⟨(some 43), .fieldA 1 (.t 6), none⟩,
    ⟨(some 44), .load none (.t 43), none⟩,
    ⟨(some 45), .bin .eql (.t 44) (.c (.int .i64 7777)), none⟩,
    ⟨(some 4), .mv (.t 45), none⟩])
  .ret)))))⟩

def x328L1 : XCode :=
  (.seq (.seq (.region [0, 1, 5, 22] [⟨(some 19), .mv (.t 5), none⟩,
    ⟨(some 20), .mv (.t 1), none⟩,
    ⟨(some 21), .len (.t 20), none⟩,
    ⟨(some 22), .bin .lss (.t 19) (.t 21), none⟩])
  (.cond (.t 22)
    .skip
    (.exit 0)))
  (.seq (.block 1 (.seq (.region [0, 1, 5, 33] [⟨(some 25), .mv (.t 0), none⟩,
    ⟨(some 26), .mv (.t 5), none⟩,
    ⟨(some 27), .idxA 1 (.t 25) (.t 26), none⟩,
    ⟨(some 28), .load none (.t 27), none⟩,
    ⟨(some 29), .mv (.t 1), none⟩,
    ⟨(some 30), .mv (.t 5), none⟩,
    ⟨(some 31), .idxA 1 (.t 29) (.t 30), none⟩,
    ⟨(some 32), .load none (.t 31), none⟩,
    ⟨(some 33), .bin .neq (.t 28) (.t 32), none⟩])
  (.cond (.t 33)
    (.seq (.region [4] [⟨(some 4), .mv (.c (.bool false)), none⟩])
    .ret)
    .skip)))
  (.region [0, 1, 5] [⟨(some 23), .mv (.t 5), none⟩,
    ⟨(some 24), .bin .add (.t 23) (.c (.int .i64 1)), none⟩,
    ⟨(some 5), .mv (.t 24), none⟩])))
/-- gearbox/gearboxlaw01.LeftInts · 2 parameters, 0 captured -/
def x328 : XFun := ⟨[.tmp 4],
  (.seq (.region [0, 1] [⟨(some 4), .mv (.c (.bool false)), none⟩])
  (.seq (.seq (.region [0, 1, 18] [⟨(some 7), .mv (.t 0), none⟩,
    ⟨(some 8), .len (.t 7), none⟩,
    ⟨(some 9), .mv (.t 1), none⟩,
    ⟨(some 10), .len (.t 9), none⟩,
    ⟨(some 11), .bin .neq (.t 8) (.t 10), none⟩,
    ⟨(some 12), .mv (.t 11), none⟩,
    ⟨(some 13), .mv (.t 0), some (12, false)⟩,
    ⟨(some 14), .cap (.t 13), some (12, false)⟩,
    ⟨(some 15), .mv (.t 1), some (12, false)⟩,
    ⟨(some 16), .len (.t 15), some (12, false)⟩,
    ⟨(some 17), .bin .leq (.t 14) (.t 16), some (12, false)⟩,
    ⟨(some 18), .pick (.t 12) (.c (.bool true)) (.t 17), none⟩])
  (.cond (.t 18)
    (.seq (.region [4] [⟨(some 4), .mv (.c (.bool false)), none⟩])
    .ret)
    .skip))
  (.seq (.seq (.region [0, 1, 5] [⟨(some 5), .mv (.c (.int .i64 0)), none⟩])
  (.block 0 (.loop [0, 1, 5] x328L1)))
  (.seq (.region [6] [⟨(some 34), .mv (.t 0), none⟩,
    ⟨(some 35), .mv (.t 1), none⟩,
    ⟨(some 36), .len (.t 35), none⟩,
    ⟨(some 37), .bin .add (.t 36) (.c (.int .i64 1)), none⟩,
    ⟨(some 38), .slice 1 (.t 34) none (some (.t 37)), none⟩,
    ⟨(some 39), .mv (.t 1), none⟩,
    ⟨(some 40), .len (.t 39), none⟩,
    ⟨(some 41), .idxA 1 (.t 38) (.t 40), none⟩,
    ⟨(some 42), .load none (.t 41), none⟩,
    ⟨(some 6), .mv (.t 42), none⟩])
  (.seq (.region [4] [⟨(some 43), .mv (.t 6), none⟩,
    ⟨(some 44), .bin .eql (.t 43) (.c (.int .i64 7777)), none⟩,
    ⟨(some 4), .mv (.t 44), none⟩])
  .ret)))))⟩

def x326L1 : XCode :=
  (.seq (.seq (.region [0, 1, 5, 22] [⟨(some 19), .mv (.t 5), none⟩,
    ⟨(some 20), .mv (.t 1), none⟩,
    ⟨(some 21), .len (.t 20), none⟩,
    ⟨(some 22), .bin .lss (.t 19) (.t 21), none⟩])
  (.cond (.t 22)
    .skip
    (.exit 0)))
  (.seq (.block 1 (.seq (.region [0, 1, 5, 33] [⟨(some 25), .mv (.t 0), none⟩,
    ⟨(some 26), .mv (.t 5), none⟩,
    ⟨(some 27), .idxA 4 (.t 25) (.t 26), none⟩,
    ⟨(some 28), .load (some 4) (.t 27), none⟩,
    ⟨(some 29), .mv (.t 1), none⟩,
    ⟨(some 30), .mv (.t 5), none⟩,
    ⟨(some 31), .idxA 4 (.t 29) (.t 30), none⟩,
    ⟨(some 32), .load (some 4) (.t 31), none⟩,
    ⟨(some 33), .eqCells true [0, 0, 0, 0] (.t 28) (.t 32), none⟩])
  (.cond (.t 33)
    (.seq (.region [4] [⟨(some 4), .mv (.c (.bool false)), none⟩])
    .ret)
    .skip)))
  (.region [0, 1, 5] [⟨(some 23), .mv (.t 5), none⟩,
    ⟨(some 24), .bin .add (.t 23) (.c (.int .i64 1)), none⟩,
    ⟨(some 5), .mv (.t 24), none⟩])))
/-- gearbox/gearboxlaw01.LeftHandlers · 2 parameters, 0 captured -/
def x326 : XFun := ⟨[.tmp 4],
  (.seq (.region [0, 1] [⟨(some 4), .mv (.c (.bool false)), none⟩])
  (.seq (.seq (.region [0, 1, 18] [⟨(some 7), .mv (.t 0), none⟩,
    ⟨(some 8), .len (.t 7), none⟩,
    ⟨(some 9), .mv (.t 1), none⟩,
    ⟨(some 10), .len (.t 9), none⟩,
    ⟨(some 11), .bin .neq (.t 8) (.t 10), none⟩,
    ⟨(some 12), .mv (.t 11), none⟩,
    ⟨(some 13), .mv (.t 0), some (12, false)⟩,
    ⟨(some 14), .cap (.t 13), some (12, false)⟩,
    ⟨(some 15), .mv (.t 1), some (12, false)⟩,
    ⟨(some 16), .len (.t 15), some (12, false)⟩,
    ⟨(some 17), .bin .leq (.t 14) (.t 16), some (12, false)⟩,
    ⟨(some 18), .pick (.t 12) (.c (.bool true)) (.t 17), none⟩])
  (.cond (.t 18)
    (.seq (.region [4] [⟨(some 4), .mv (.c (.bool false)), none⟩])
    .ret)
    .skip))
  (.seq (.seq (.region [0, 1, 5] [⟨(some 5), .mv (.c (.int .i64 0)), none⟩])
  (.block 0 (.loop [0, 1, 5] x326L1)))
  (.seq (.region [6] [⟨(some 34), .mv (.t 0), none⟩,
    ⟨(some 35), .mv (.t 1), none⟩,
    ⟨(some 36), .len (.t 35), none⟩,
    ⟨(some 37), .bin .add (.t 36) (.c (.int .i64 1)), none⟩,
    ⟨(some 38), .slice 4 (.t 34) none (some (.t 37)), none⟩,
    ⟨(some 39), .mv (.t 1), none⟩,
    ⟨(some 40), .len (.t 39), none⟩,
    ⟨(some 41), .idxA 4 (.t 38) (.t 40), none⟩,
    ⟨(some 42), .load (some 4) (.t 41), none⟩,
    ⟨(some 6), .alloc [(.int .i64 0), (.int .i64 0), (.int .i64 0), (.int .i64 0)], none⟩,
    ⟨none, .store 4 (.t 6) (.t 42), none⟩])
  (.seq (.region [4] [⟨(some 43), .fieldA 2 (.t 6), none⟩,
    ⟨(some 44), .load none (.t 43), none⟩,
    ⟨(some 45), .bin .eql (.t 44) (.c (.int .i64 7777)), none⟩,
    ⟨(some 4), .mv (.t 45), none⟩])
  .ret)))))⟩

/-- slices.rotateRight[int] · 2 parameters, 0 captured -/
def x783 : XFun := ⟨[],
  (.region [] [⟨(some 4), .mv (.t 0), none⟩,
    ⟨(some 5), .mv (.t 0), none⟩,
    ⟨(some 6), .len (.t 5), none⟩,
    ⟨(some 7), .mv (.t 1), none⟩,
    ⟨(some 8), .bin .sub (.t 6) (.t 7), none⟩,
    ⟨(some 9), .call .view 782 [(.t 4), (.t 8)], none⟩])⟩

/-- gearbox/gearboxlaw01.CapsSize · 1 parameters, 0 captured -/
def x304 : XFun := ⟨[.tmp 2],
  (.seq (.region [0] [⟨(some 2), .mv (.c (.int .i64 0)), none⟩])
  (.seq (.region [2] [⟨(some 3), .mv (.t 0), none⟩,
    ⟨(some 4), .len (.t 3), none⟩,
    ⟨(some 2), .mv (.t 4), none⟩])
  .ret))⟩

def x305L1 : XCode :=
  (.seq (.seq (.region [0, 3, 4, 14] [⟨(some 7), .mv (.t 4), none⟩,
    ⟨(some 8), .mv (.t 0), none⟩,
    ⟨(some 9), .len (.t 8), none⟩,
    ⟨(some 10), .bin .lss (.t 7) (.t 9), none⟩,
    ⟨(some 11), .mv (.t 10), none⟩,
    ⟨(some 12), .mv (.t 3), some (11, true)⟩,
    ⟨(some 13), .bin .leq (.t 12) (.c (.int .i64 1048576)), some (11, true)⟩,
    ⟨(some 14), .pick (.t 11) (.t 13) (.c (.bool false)), none⟩])
  (.cond (.t 14)
    .skip
    (.exit 0)))
  (.seq (.block 1 (.region [0, 3, 4] [⟨(some 17), .mv (.t 3), none⟩,
    ⟨(some 18), .mv (.t 0), none⟩,
    ⟨(some 19), .mv (.t 4), none⟩,
    ⟨(some 20), .idxA 3 (.t 18) (.t 19), none⟩,
    ⟨(some 21), .fieldA 2 (.t 20), none⟩,
    ⟨(some 22), .load none (.t 21), none⟩,
    ⟨(some 23), .lenS (.t 22), none⟩,
    ⟨(some 24), .bin .add (.t 17) (.t 23), none⟩,
    ⟨(some 3), .mv (.t 24), none⟩]))
  (.region [0, 3, 4] [⟨(some 15), .mv (.t 4), none⟩,
    ⟨(some 16), .bin .add (.t 15) (.c (.int .i64 1)), none⟩,
    ⟨(some 4), .mv (.t 16), none⟩])))
/-- gearbox/gearboxlaw01.ConstsSize · 1 parameters, 0 captured -/
def x305 : XFun := ⟨[.tmp 2],
  (.seq (.region [0] [⟨(some 2), .mv (.c (.int .i64 0)), none⟩])
  (.seq (.region [0, 3] [⟨(some 5), .mv (.t 0), none⟩,
    ⟨(some 6), .len (.t 5), none⟩,
    ⟨(some 3), .mv (.t 6), none⟩])
  (.seq (.seq (.region [0, 3, 4] [⟨(some 4), .mv (.c (.int .i64 0)), none⟩])
  (.block 0 (.loop [0, 3, 4] x305L1)))
  (.seq (.region [2] [⟨(some 25), .mv (.t 3), none⟩,
    ⟨(some 2), .mv (.t 25), none⟩])
  .ret))))⟩

/-- gearbox/gearboxlaw01.InsesSize · 1 parameters, 0 captured -/
def x318 : XFun := ⟨[.tmp 2],
  (.seq (.region [0] [⟨(some 2), .mv (.c (.int .i64 0)), none⟩])
  (.seq (.region [2] [⟨(some 3), .mv (.t 0), none⟩,
    ⟨(some 4), .len (.t 3), none⟩,
    ⟨(some 2), .mv (.t 4), none⟩])
  .ret))⟩

/-- gearbox/gearboxlaw01.IntsSize · 1 parameters, 0 captured -/
def x319 : XFun := ⟨[.tmp 2],
  (.seq (.region [0] [⟨(some 2), .mv (.c (.int .i64 0)), none⟩])
  (.seq (.region [2] [⟨(some 3), .mv (.t 0), none⟩,
    ⟨(some 4), .len (.t 3), none⟩,
    ⟨(some 2), .mv (.t 4), none⟩])
  .ret))⟩

/-- gearbox/gearboxlaw01.HandlersSize · 1 parameters, 0 captured -/
def x314 : XFun := ⟨[.tmp 2],
  (.seq (.region [0] [⟨(some 2), .mv (.c (.int .i64 0)), none⟩])
  (.seq (.region [2] [⟨(some 3), .mv (.t 0), none⟩,
    ⟨(some 4), .len (.t 3), none⟩,
    ⟨(some 2), .mv (.t 4), none⟩])
  .ret))⟩

def x757L1 : XCode :=
  (.seq (.region [0, 1, 7, 8, 9] [⟨(some 9), .bin .lss (.t 8) (.t 7), none⟩])
  (.seq (.cond (.t 9)
    .skip
    (.exit 0))
  (.seq (.block 1 (.seq (.region [0, 1, 5, 7, 8] [⟨(some 10), .mv (.t 8), none⟩,
    ⟨(some 5), .mv (.t 10), none⟩])
  (.seq (.region [0, 1, 5, 7, 8, 16] [⟨(some 11), .mv (.t 1), none⟩,
    ⟨(some 12), .mv (.t 0), none⟩,
    ⟨(some 13), .mv (.t 5), none⟩,
    ⟨(some 14), .idxA 3 (.t 12) (.t 13), none⟩,
    ⟨(some 15), .load (some 3) (.t 14), none⟩,
    ⟨(some 16), .callV (.t 11) [(.t 15)], none⟩])
  (.cond (.t 16)
    (.seq (.region [4] [⟨(some 17), .mv (.t 5), none⟩,
      ⟨(some 4), .mv (.t 17), none⟩])
    .ret)
    .skip))))
  (.region [0, 1, 7, 8] [⟨(some 18), .bin .add (.t 8) (.c (.int .i64 1)), none⟩,
    ⟨(some 8), .mv (.t 18), none⟩]))))
/-- slices.IndexFunc[[]gearbox/api.Const,gearbox/api.Const] · 2 parameters, 0 captured -/
def x757 : XFun := ⟨[.tmp 4],
  (.seq (.region [0, 1] [⟨(some 4), .mv (.c (.int .i64 0)), none⟩])
  (.seq (.seq (.region [0, 1, 7, 8] [⟨(some 6), .mv (.t 0), none⟩,
    ⟨(some 7), .len (.t 6), none⟩,
    ⟨(some 8), .mv (.c (.int .i64 0)), none⟩])
  (.block 0 (.loop [0, 1, 7, 8] x757L1)))
  (.seq (.region [4] [⟨(some 4), .mv (.c (.int .i64 (-1))), none⟩])
  .ret)))⟩

def x760L1 : XCode :=
  (.seq (.region [0, 1, 7, 8, 9] [⟨(some 9), .bin .lss (.t 8) (.t 7), none⟩])
  (.seq (.cond (.t 9)
    .skip
    (.exit 0))
  (.seq (.block 1 (.seq (.region [0, 1, 5, 7, 8] [⟨(some 10), .mv (.t 8), none⟩,
    ⟨(some 5), .mv (.t 10), none⟩])
  (.seq (.region [0, 1, 5, 7, 8, 16] [⟨(some 11), .mv (.t 1), none⟩,
    ⟨(some 12), .mv (.t 0), none⟩,
    ⟨(some 13), .mv (.t 5), none⟩,
    ⟨(some 14), .idxA 1 (.t 12) (.t 13), none⟩,
    ⟨(some 15), .load none (.t 14), none⟩,
    ⟨(some 16), .callV (.t 11) [(.t 15)], none⟩])
  (.cond (.t 16)
    (.seq (.region [4] [⟨(some 17), .mv (.t 5), none⟩,
      ⟨(some 4), .mv (.t 17), none⟩])
    .ret)
    .skip))))
  (.region [0, 1, 7, 8] [⟨(some 18), .bin .add (.t 8) (.c (.int .i64 1)), none⟩,
    ⟨(some 8), .mv (.t 18), none⟩]))))
/-- slices.IndexFunc[[]int,int] · 2 parameters, 0 captured -/
def x760 : XFun := ⟨[.tmp 4],
  (.seq (.region [0, 1] [⟨(some 4), .mv (.c (.int .i64 0)), none⟩])
  (.seq (.seq (.region [0, 1, 7, 8] [⟨(some 6), .mv (.t 0), none⟩,
    ⟨(some 7), .len (.t 6), none⟩,
    ⟨(some 8), .mv (.c (.int .i64 0)), none⟩])
  (.block 0 (.loop [0, 1, 7, 8] x760L1)))
  (.seq (.region [4] [⟨(some 4), .mv (.c (.int .i64 (-1))), none⟩])
  .ret)))⟩

def x758L1 : XCode :=
  (.seq (.region [0, 1, 7, 8, 9] [⟨(some 9), .bin .lss (.t 8) (.t 7), none⟩])
  (.seq (.cond (.t 9)
    .skip
    (.exit 0))
  (.seq (.block 1 (.seq (.region [0, 1, 5, 7, 8] [⟨(some 10), .mv (.t 8), none⟩,
    ⟨(some 5), .mv (.t 10), none⟩])
  (.seq (.region [0, 1, 5, 7, 8, 16] [⟨(some 11), .mv (.t 1), none⟩,
    ⟨(some 12), .mv (.t 0), none⟩,
    ⟨(some 13), .mv (.t 5), none⟩,
    ⟨(some 14), .idxA 4 (.t 12) (.t 13), none⟩,
    ⟨(some 15), .load (some 4) (.t 14), none⟩,
    ⟨(some 16), .callV (.t 11) [(.t 15)], none⟩])
  (.cond (.t 16)
    (.seq (.region [4] [⟨(some 17), .mv (.t 5), none⟩,
      ⟨(some 4), .mv (.t 17), none⟩])
    .ret)
    .skip))))
  (.region [0, 1, 7, 8] [⟨(some 18), .bin .add (.t 8) (.c (.int .i64 1)), none⟩,
    ⟨(some 8), .mv (.t 18), none⟩]))))
/-- slices.IndexFunc[[]gearbox/api.Handler,gearbox/api.Handler] · 2 parameters, 0 captured -/
def x758 : XFun := ⟨[.tmp 4],
  (.seq (.region [0, 1] [⟨(some 4), .mv (.c (.int .i64 0)), none⟩])
  (.seq (.seq (.region [0, 1, 7, 8] [⟨(some 6), .mv (.t 0), none⟩,
    ⟨(some 7), .len (.t 6), none⟩,
    ⟨(some 8), .mv (.c (.int .i64 0)), none⟩])
  (.block 0 (.loop [0, 1, 7, 8] x758L1)))
  (.seq (.region [4] [⟨(some 4), .mv (.c (.int .i64 (-1))), none⟩])
  .ret)))⟩

/-- slices.ContainsFunc[[]gearbox/api.Cap,gearbox/api.Cap] · 2 parameters, 0 captured -/
def x746 : XFun := ⟨[.tmp 4],
  (.seq (.region [0, 1] [⟨(some 4), .mv (.c (.bool false)), none⟩])
  (.seq (.region [4] [⟨(some 5), .mv (.t 0), none⟩,
    ⟨(some 6), .mv (.t 1), none⟩,
    ⟨(some 7), .call .view 756 [(.t 5), (.t 6)], none⟩,
    ⟨(some 8), .bin .geq (.t 7) (.c (.int .i64 0)), none⟩,
    ⟨(some 4), .mv (.t 8), none⟩])
  .ret))⟩

/-- (*gearbox/verify.checker).makes$1 · 1 parameters, 1 captured -/
def x258 : XFun := ⟨[.tmp 3],
  (.seq (.region [1, 2] [⟨(some 2), .box 2 (.t 0), none⟩,
    ⟨(some 3), .mv (.c (.bool false)), none⟩])
  (.seq (.seq (.region [1, 2, 5] [⟨(some 4), .fieldA 0 (.t 2), none⟩,
    ⟨(some 5), .load none (.t 4), none⟩])
  (.cond (.t 5)
    (.seq (.region [3] [⟨(some 6), .fieldA 1 (.t 2), none⟩,
      ⟨(some 7), .load none (.t 6), none⟩,
      ⟨(some 8), .fieldA 3 (.t 1), none⟩,
      ⟨(some 9), .load none (.t 8), none⟩,
      ⟨(some 10), .len (.t 9), none⟩,
      ⟨(some 11), .call .view 660 [(.t 7), (.c (.int .i64 0)), (.t 10)], none⟩,
      ⟨(some 12), .un .not (.t 11), none⟩,
      ⟨(some 3), .mv (.t 12), none⟩])
    .ret)
    .skip))
  (.seq (.region [3] [⟨(some 13), .fieldA 1 (.t 2), none⟩,
    ⟨(some 14), .load none (.t 13), none⟩,
    ⟨(some 15), .fieldA 2 (.t 1), none⟩,
    ⟨(some 16), .load none (.t 15), none⟩,
    ⟨(some 17), .call .view 660 [(.t 14), (.c (.int .i64 0)), (.t 16)], none⟩,
    ⟨(some 18), .un .not (.t 17), none⟩,
    ⟨(some 3), .mv (.t 18), none⟩])
  .ret)))⟩

/-- slices.rotateLeft[int] · 2 parameters, 0 captured -/
def x782 : XFun := ⟨[],
  (.seq (.region [0, 1] [⟨(some 4), .mv (.t 0), none⟩,
    ⟨(some 5), .mv (.t 1), none⟩,
    ⟨(some 6), .slice 1 (.t 4) none (some (.t 5)), none⟩,
    ⟨(some 7), .call .view 767 [(.t 6)], none⟩])
  (.seq (.region [0] [⟨(some 8), .mv (.t 0), none⟩,
    ⟨(some 9), .mv (.t 1), none⟩,
    ⟨(some 10), .slice 1 (.t 8) (some (.t 9)) none, none⟩,
    ⟨(some 11), .call .view 767 [(.t 10)], none⟩])
  (.region [] [⟨(some 12), .mv (.t 0), none⟩,
    ⟨(some 13), .call .view 767 [(.t 12)], none⟩])))⟩

def x756L1 : XCode :=
  (.seq (.region [0, 1, 7, 8, 9] [⟨(some 9), .bin .lss (.t 8) (.t 7), none⟩])
  (.seq (.cond (.t 9)
    .skip
    (.exit 0))
  (.seq (.block 1 (.seq (.region [0, 1, 5, 7, 8] [⟨(some 10), .mv (.t 8), none⟩,
    ⟨(some 5), .mv (.t 10), none⟩])
  (.seq (.region [0, 1, 5, 7, 8, 16] [⟨(some 11), .mv (.t 1), none⟩,
    ⟨(some 12), .mv (.t 0), none⟩,
    ⟨(some 13), .mv (.t 5), none⟩,
    ⟨(some 14), .idxA 2 (.t 12) (.t 13), none⟩,
    ⟨(some 15), .load (some 2) (.t 14), none⟩,
    ⟨(some 16), .callV (.t 11) [(.t 15)], none⟩])
  (.cond (.t 16)
    (.seq (.region [4] [⟨(some 17), .mv (.t 5), none⟩,
      ⟨(some 4), .mv (.t 17), none⟩])
    .ret)
    .skip))))
  (.region [0, 1, 7, 8] [⟨(some 18), .bin .add (.t 8) (.c (.int .i64 1)), none⟩,
    ⟨(some 8), .mv (.t 18), none⟩]))))
/-- slices.IndexFunc[[]gearbox/api.Cap,gearbox/api.Cap] · 2 parameters, 0 captured -/
def x756 : XFun := ⟨[.tmp 4],
  (.seq (.region [0, 1] [⟨(some 4), .mv (.c (.int .i64 0)), none⟩])
  (.seq (.seq (.region [0, 1, 7, 8] [⟨(some 6), .mv (.t 0), none⟩,
    ⟨(some 7), .len (.t 6), none⟩,
    ⟨(some 8), .mv (.c (.int .i64 0)), none⟩])
  (.block 0 (.loop [0, 1, 7, 8] x756L1)))
  (.seq (.region [4] [⟨(some 4), .mv (.c (.int .i64 (-1))), none⟩])
  .ret)))⟩

def x767L1 : XCode :=
  (.seq (.seq (.region [0, 2, 3, 9] [⟨(some 7), .mv (.t 2), none⟩,
    ⟨(some 8), .mv (.t 3), none⟩,
    ⟨(some 9), .bin .lss (.t 7) (.t 8), none⟩])
  (.cond (.t 9)
    .skip
    (.exit 0)))
  (.seq (.block 1 (.region [0, 2, 3] [⟨(some 14), .mv (.t 0), none⟩,
    ⟨(some 15), .mv (.t 2), none⟩,
    ⟨(some 16), .mv (.t 0), none⟩,
    ⟨(some 17), .mv (.t 3), none⟩,
    ⟨(some 18), .mv (.t 0), none⟩,
    ⟨(some 19), .mv (.t 3), none⟩,
    ⟨(some 20), .idxA 1 (.t 18) (.t 19), none⟩,
    ⟨(some 21), .load none (.t 20), none⟩,
    ⟨(some 22), .mv (.t 0), none⟩,
    ⟨(some 23), .mv (.t 2), none⟩,
    ⟨(some 24), .idxA 1 (.t 22) (.t 23), none⟩,
    ⟨(some 25), .load none (.t 24), none⟩,
    ⟨(some 26), .idxA 1 (.t 14) (.t 15), none⟩,
    ⟨none, .store 1 (.t 26) (.t 21), none⟩,
    ⟨(some 27), .idxA 1 (.t 16) (.t 17), none⟩,
    ⟨none, .store 1 (.t 27) (.t 25), none⟩]))
  (.region [0, 2, 3] [⟨(some 10), .mv (.t 2), none⟩,
    ⟨(some 11), .bin .add (.t 10) (.c (.int .i64 1)), none⟩,
    ⟨(some 12), .mv (.t 3), none⟩,
    ⟨(some 13), .bin .sub (.t 12) (.c (.int .i64 1)), none⟩,
    ⟨(some 2), .mv (.t 11), none⟩,
    ⟨(some 3), .mv (.t 13), none⟩])))
/-- slices.Reverse[[]int,int] · 1 parameters, 0 captured -/
def x767 : XFun := ⟨[],
  (.seq (.region [0, 2, 3] [⟨(some 4), .mv (.t 0), none⟩,
    ⟨(some 5), .len (.t 4), none⟩,
    ⟨(some 6), .bin .sub (.t 5) (.c (.int .i64 1)), none⟩,
    ⟨(some 2), .mv (.c (.int .i64 0)), none⟩,
    ⟨(some 3), .mv (.t 6), none⟩])
  (.block 0 (.loop [0, 2, 3] x767L1)))⟩


end Go.EX
