/-
  EX: law 09: the parts of a round of VerifyRuns. Written by a program (genparts465.py).
-/
import Derived.Test.YtfmpeoickjggiaaC9
set_option linter.unusedVariables false
set_option linter.unusedSimpArgs false
namespace Go.EX

def v9A : XCode :=
  (.seq (.region [2, 7, 9, 10, 11, 12, 46] [⟨(some 45), .mv (.t 12), none⟩,
    ⟨(some 46), .bin .lss (.t 45) (.c (.int .i64 300)), none⟩])
  (.cond (.t 46)
    .skip
    (.exit 0)))
def v9B1 : XCode :=
  (.seq (.region [2, 7, 9, 10, 11, 12, 73] [⟨(some 49), .mv (.t 10), none⟩,
    ⟨(some 50), .bin .lss (.t 49) (.c (.int .i64 0)), none⟩,
    ⟨(some 51), .mv (.t 50), none⟩,
    ⟨(some 52), .mv (.t 10), some (51, false)⟩,
    ⟨(some 53), .fieldA 5 (.t 9), some (51, false)⟩,
    ⟨(some 54), .load none (.t 53), some (51, false)⟩,
    ⟨(some 55), .len (.t 54), some (51, false)⟩,
    ⟨(some 56), .bin .geq (.t 52) (.t 55), some (51, false)⟩,
    ⟨(some 57), .pick (.t 51) (.c (.bool true)) (.t 56), none⟩,
    ⟨(some 58), .mv (.t 57), none⟩,
    ⟨(some 59), .mv (.t 7), some (58, false)⟩,
    ⟨(some 60), .mv (.t 10), some (58, false)⟩,
    ⟨(some 61), .idxA 1 (.t 59) (.t 60), some (58, false)⟩,
    ⟨(some 62), .load none (.t 61), some (58, false)⟩,
    ⟨(some 63), .mv (.t 11), some (58, false)⟩,
    ⟨(some 64), .bin .neq (.t 62) (.t 63), some (58, false)⟩,
    ⟨(some 65), .pick (.t 58) (.c (.bool true)) (.t 64), none⟩,
    ⟨(some 66), .mv (.t 65), none⟩,
    ⟨(some 67), .mv (.t 11), some (66, false)⟩,
    ⟨(some 68), .bin .lss (.t 67) (.c (.int .i64 0)), some (66, false)⟩,
    ⟨(some 69), .pick (.t 66) (.c (.bool true)) (.t 68), none⟩,
    ⟨(some 70), .mv (.t 69), none⟩,
    ⟨(some 71), .mv (.t 11), some (70, false)⟩,
    ⟨(some 72), .bin .gtr (.t 71) (.c (.int .i64 256)), some (70, false)⟩,
    ⟨(some 73), .pick (.t 70) (.c (.bool true)) (.t 72), none⟩])
  (.cond (.t 73)
    (.seq (.region [6] [⟨(some 6), .mv (.c (.bool false)), none⟩])
    .ret)
    .skip))
def v9B2 : XCode :=
  (.region [2, 7, 9, 10, 11, 12, 13] [⟨(some 74), .fieldA 5 (.t 9), none⟩,
    ⟨(some 75), .load none (.t 74), none⟩,
    ⟨(some 76), .mv (.t 10), none⟩,
    ⟨(some 77), .idxA 2 (.t 75) (.t 76), none⟩,
    ⟨(some 78), .load (some 2) (.t 77), none⟩,
    ⟨(some 13), .alloc [(.int .u8 0), (.int .i64 0)], none⟩,
    ⟨none, .store 2 (.t 13) (.t 78), none⟩])
def v9B3 : XCode :=
  (.region [2, 7, 9, 10, 11, 12, 13, 14] [⟨(some 79), .mv (.t 2), none⟩,
    ⟨(some 80), .mv (.t 12), none⟩,
    ⟨(some 81), .mv (.t 2), none⟩,
    ⟨(some 82), .len (.t 81), none⟩,
    ⟨(some 83), .bin .rem (.t 80) (.t 82), none⟩,
    ⟨(some 84), .idxA 1 (.t 79) (.t 83), none⟩,
    ⟨(some 85), .load none (.t 84), none⟩,
    ⟨(some 14), .mv (.t 85), none⟩])
def v9B4 : XCode :=
  (.seq (.region [2, 7, 9, 10, 11, 12, 13, 14, 93] [⟨(some 86), .mv (.t 14), none⟩,
    ⟨(some 87), .bin .rem (.t 86) (.c (.int .u8 8)), none⟩,
    ⟨(some 88), .bin .eql (.t 87) (.c (.int .u8 0)), none⟩,
    ⟨(some 89), .mv (.t 88), none⟩,
    ⟨(some 90), .fieldA 0 (.t 13), some (89, false)⟩,
    ⟨(some 91), .load none (.t 90), some (89, false)⟩,
    ⟨(some 92), .bin .eql (.t 91) (.c (.int .u8 29)), some (89, false)⟩,
    ⟨(some 93), .pick (.t 89) (.c (.bool true)) (.t 92), none⟩])
  (.cond (.t 93)
    (.seq (.region [2, 7, 9, 10, 11, 12, 15] [⟨(some 15), .mv (.c (.int .i64 (-1))), none⟩])
    (.seq (.seq (.region [2, 7, 9, 10, 11, 12, 15, 16] [⟨(some 16), .mv (.c (.int .i64 0)), none⟩])
    (.block 2 (.loop [2, 7, 9, 10, 11, 12, 15, 16] x465L1)))
    (.seq (.seq (.region [2, 7, 9, 11, 12, 15, 126] [⟨(some 125), .mv (.t 15), none⟩,
      ⟨(some 126), .bin .lss (.t 125) (.c (.int .i64 0)), none⟩])
    (.cond (.t 126)
      (.seq (.region [6] [⟨(some 6), .mv (.c (.bool true)), none⟩])
      .ret)
      .skip))
    (.seq (.region [2, 7, 9, 10, 11, 12] [⟨(some 127), .mv (.t 15), none⟩,
      ⟨(some 10), .mv (.t 127), none⟩])
    (.exit 1)))))
    .skip))
def v9SW : XCode :=
  (.seq (.region [2, 7, 9, 10, 11, 12, 13, 14, 129] [⟨(some 128), .fieldA 0 (.t 13), none⟩,
    ⟨(some 129), .load none (.t 128), none⟩])
  (.block 4 (.seq (.region [2, 7, 9, 10, 11, 12, 13, 14, 129, 130] [⟨(some 131), .bin .eql (.t 129) (.c (.int .u8 28)), none⟩,
    ⟨(some 130), .mv (.t 131), none⟩])
  (.cond (.t 130)
    (.seq (.region [6] [⟨(some 132), .mv (.t 11), none⟩,
      ⟨(some 133), .bin .geq (.t 132) (.c (.int .i64 1)), none⟩,
      ⟨(some 6), .mv (.t 133), none⟩])
    .ret)
    (.seq (.region [2, 7, 9, 10, 11, 12, 13, 14, 129, 134] [⟨(some 135), .bin .eql (.t 129) (.c (.int .u8 21)), none⟩,
      ⟨(some 134), .mv (.t 135), none⟩])
    (.cond (.t 134)
      (.seq (.seq (.region [2, 7, 9, 11, 12, 13, 137] [⟨(some 136), .mv (.t 11), none⟩,
        ⟨(some 137), .bin .neq (.t 136) (.c (.int .i64 0)), none⟩])
      (.cond (.t 137)
        (.seq (.region [6] [⟨(some 6), .mv (.c (.bool false)), none⟩])
        .ret)
        .skip))
      (.seq (.region [2, 7, 9, 10, 11, 12] [⟨(some 138), .fieldA 1 (.t 13), none⟩,
        ⟨(some 139), .load none (.t 138), none⟩,
        ⟨(some 10), .mv (.t 139), none⟩])
      (.exit 1)))
      (.seq (.region [2, 7, 9, 10, 11, 12, 13, 14, 129, 140] [⟨(some 141), .bin .eql (.t 129) (.c (.int .u8 19)), none⟩,
        ⟨(some 140), .mv (.t 141), none⟩])
      (.cond (.t 140)
        (.seq (.region [2, 7, 9, 10, 11, 12] [⟨(some 142), .fieldA 1 (.t 13), none⟩,
          ⟨(some 143), .load none (.t 142), none⟩,
          ⟨(some 10), .mv (.t 143), none⟩])
        (.exit 1))
        (.seq (.region [2, 7, 9, 10, 11, 12, 13, 14, 129, 144] [⟨(some 145), .bin .eql (.t 129) (.c (.int .u8 20)), none⟩,
          ⟨(some 144), .mv (.t 145), none⟩])
        (.cond (.t 144)
          (.seq (.region [2, 7, 9, 10, 11, 12, 13, 14] [⟨(some 146), .mv (.t 11), none⟩,
            ⟨(some 147), .bin .sub (.t 146) (.c (.int .i64 1)), none⟩,
            ⟨(some 11), .mv (.t 147), none⟩])
          (.seq (.region [2, 7, 9, 10, 11, 12, 13, 150] [⟨(some 148), .mv (.t 14), none⟩,
            ⟨(some 149), .bin .rem (.t 148) (.c (.int .u8 2)), none⟩,
            ⟨(some 150), .bin .eql (.t 149) (.c (.int .u8 1)), none⟩])
          (.cond (.t 150)
            (.seq (.region [2, 7, 9, 10, 11, 12] [⟨(some 151), .fieldA 1 (.t 13), none⟩,
              ⟨(some 152), .load none (.t 151), none⟩,
              ⟨(some 10), .mv (.t 152), none⟩])
            (.exit 1))
            .skip)))
          (.seq (.seq (.region [2, 7, 9, 10, 11, 12, 13, 129, 153] [⟨(some 154), .bin .eql (.t 129) (.c (.int .u8 1)), none⟩,
            ⟨(some 153), .mv (.t 154), none⟩])
          (.cond (.t 153)
            .skip
            (.seq (.region [2, 7, 9, 10, 11, 12, 13, 129, 153] [⟨(some 155), .bin .eql (.t 129) (.c (.int .u8 2)), none⟩,
              ⟨(some 153), .mv (.t 155), none⟩])
            (.cond (.t 153)
              .skip
              (.seq (.region [2, 7, 9, 10, 11, 12, 13, 129, 153] [⟨(some 156), .bin .eql (.t 129) (.c (.int .u8 3)), none⟩,
                ⟨(some 153), .mv (.t 156), none⟩])
              (.cond (.t 153)
                .skip
                (.seq (.region [2, 7, 9, 10, 11, 12, 13, 129, 153] [⟨(some 157), .bin .eql (.t 129) (.c (.int .u8 4)), none⟩,
                  ⟨(some 153), .mv (.t 157), none⟩])
                (.cond (.t 153)
                  .skip
                  (.seq (.region [2, 7, 9, 10, 11, 12, 13, 129, 153] [⟨(some 158), .bin .eql (.t 129) (.c (.int .u8 5)), none⟩,
                    ⟨(some 153), .mv (.t 158), none⟩])
                  (.cond (.t 153)
                    .skip
                    (.seq (.region [2, 7, 9, 10, 11, 12, 13, 129, 153] [⟨(some 159), .bin .eql (.t 129) (.c (.int .u8 8)), none⟩,
                      ⟨(some 153), .mv (.t 159), none⟩])
                    (.cond (.t 153)
                      .skip
                      (.seq (.region [2, 7, 9, 10, 11, 12, 13, 129, 153] [⟨(some 160), .bin .eql (.t 129) (.c (.int .u8 10)), none⟩,
                        ⟨(some 153), .mv (.t 160), none⟩])
                      (.cond (.t 153)
                        .skip
                        (.seq (.region [2, 7, 9, 10, 11, 12, 13, 129, 153] [⟨(some 161), .bin .eql (.t 129) (.c (.int .u8 26)), none⟩,
                          ⟨(some 153), .mv (.t 161), none⟩])
                        (.cond (.t 153)
                          .skip
                          (.region [2, 7, 9, 10, 11, 12, 13, 129, 153] [⟨(some 162), .bin .eql (.t 129) (.c (.int .u8 13)), none⟩,
                            ⟨(some 153), .mv (.t 162), none⟩])))))))))))))))))
          (.cond (.t 153)
            (.region [2, 7, 9, 10, 11, 12] [⟨(some 163), .mv (.t 11), none⟩,
              ⟨(some 164), .bin .add (.t 163) (.c (.int .i64 1)), none⟩,
              ⟨(some 11), .mv (.t 164), none⟩])
            (.seq (.seq (.region [2, 7, 9, 10, 11, 12, 13, 129, 165] [⟨(some 166), .bin .eql (.t 129) (.c (.int .u8 6)), none⟩,
              ⟨(some 165), .mv (.t 166), none⟩])
            (.cond (.t 165)
              .skip
              (.seq (.region [2, 7, 9, 10, 11, 12, 13, 129, 165] [⟨(some 167), .bin .eql (.t 129) (.c (.int .u8 9)), none⟩,
                ⟨(some 165), .mv (.t 167), none⟩])
              (.cond (.t 165)
                .skip
                (.seq (.region [2, 7, 9, 10, 11, 12, 13, 129, 165] [⟨(some 168), .bin .eql (.t 129) (.c (.int .u8 11)), none⟩,
                  ⟨(some 165), .mv (.t 168), none⟩])
                (.cond (.t 165)
                  .skip
                  (.seq (.region [2, 7, 9, 10, 11, 12, 13, 129, 165] [⟨(some 169), .bin .eql (.t 129) (.c (.int .u8 12)), none⟩,
                    ⟨(some 165), .mv (.t 169), none⟩])
                  (.cond (.t 165)
                    .skip
                    (.seq (.region [2, 7, 9, 10, 11, 12, 13, 129, 165] [⟨(some 170), .bin .eql (.t 129) (.c (.int .u8 30)), none⟩,
                      ⟨(some 165), .mv (.t 170), none⟩])
                    (.cond (.t 165)
                      .skip
                      (.seq (.region [2, 7, 9, 10, 11, 12, 13, 129, 165] [⟨(some 171), .bin .eql (.t 129) (.c (.int .u8 14)), none⟩,
                        ⟨(some 165), .mv (.t 171), none⟩])
                      (.cond (.t 165)
                        .skip
                        (.region [2, 7, 9, 10, 11, 12, 13, 129, 165] [⟨(some 172), .bin .eql (.t 129) (.c (.int .u8 24)), none⟩,
                          ⟨(some 165), .mv (.t 172), none⟩])))))))))))))
            (.cond (.t 165)
              (.region [2, 7, 9, 10, 11, 12] [⟨(some 173), .mv (.t 11), none⟩,
                ⟨(some 174), .bin .sub (.t 173) (.c (.int .i64 1)), none⟩,
                ⟨(some 11), .mv (.t 174), none⟩])
              (.seq (.region [2, 7, 9, 10, 11, 12, 13, 129, 175] [⟨(some 176), .bin .eql (.t 129) (.c (.int .u8 22)), none⟩,
                ⟨(some 175), .mv (.t 176), none⟩])
              (.cond (.t 175)
                (.region [2, 7, 9, 10, 11, 12] [⟨(some 177), .mv (.t 11), none⟩,
                  ⟨(some 178), .bin .add (.t 177) (.c (.int .i64 1)), none⟩,
                  ⟨(some 179), .fieldA 1 (.t 13), none⟩,
                  ⟨(some 180), .load none (.t 179), none⟩,
                  ⟨(some 181), .bin .sub (.t 178) (.t 180), none⟩,
                  ⟨(some 11), .mv (.t 181), none⟩])
                (.seq (.region [2, 7, 9, 10, 11, 12, 13, 129, 182] [⟨(some 183), .bin .eql (.t 129) (.c (.int .u8 23)), none⟩,
                  ⟨(some 182), .mv (.t 183), none⟩])
                (.cond (.t 182)
                  (.region [2, 7, 9, 10, 11, 12] [⟨(some 184), .mv (.t 11), none⟩,
                    ⟨(some 185), .bin .add (.t 184) (.c (.int .i64 1)), none⟩,
                    ⟨(some 186), .fieldA 1 (.t 13), none⟩,
                    ⟨(some 187), .load none (.t 186), none⟩,
                    ⟨(some 188), .bin .mul (.c (.int .i64 2)) (.t 187), none⟩,
                    ⟨(some 189), .bin .sub (.t 185) (.t 188), none⟩,
                    ⟨(some 11), .mv (.t 189), none⟩])
                  (.seq (.region [2, 7, 9, 10, 11, 12, 13, 129, 190] [⟨(some 191), .bin .eql (.t 129) (.c (.int .u8 27)), none⟩,
                    ⟨(some 190), .mv (.t 191), none⟩])
                  (.cond (.t 190)
                    (.region [2, 7, 9, 10, 11, 12] [⟨(some 192), .mv (.t 11), none⟩,
                      ⟨(some 193), .fieldA 1 (.t 13), none⟩,
                      ⟨(some 194), .load none (.t 193), none⟩,
                      ⟨(some 195), .bin .sub (.t 192) (.t 194), none⟩,
                      ⟨(some 11), .mv (.t 195), none⟩])
                    (.seq (.region [2, 7, 9, 10, 11, 12, 196] [⟨(some 197), .bin .eql (.t 129) (.c (.int .u8 25)), none⟩,
                      ⟨(some 196), .mv (.t 197), none⟩])
                    (.cond (.t 196)
                      (.region [2, 7, 9, 10, 11, 12] [⟨(some 198), .mv (.t 11), none⟩,
                        ⟨(some 199), .bin .sub (.t 198) (.c (.int .i64 3)), none⟩,
                        ⟨(some 11), .mv (.t 199), none⟩])
                      .skip))))))))))))))))))))))
def v9E : XCode :=
  (.region [2, 7, 9, 10, 11, 12] [⟨(some 200), .mv (.t 10), none⟩,
    ⟨(some 201), .bin .add (.t 200) (.c (.int .i64 1)), none⟩,
    ⟨(some 10), .mv (.t 201), none⟩])
def v9I : XCode :=
  (.region [2, 7, 9, 10, 11, 12] [⟨(some 47), .mv (.t 12), none⟩,
    ⟨(some 48), .bin .add (.t 47) (.c (.int .i64 1)), none⟩,
    ⟨(some 12), .mv (.t 48), none⟩])
theorem x465L2_eq : x465L2 = .seq v9A (.seq (.block 1 (.seq v9B1 (.seq v9B2 (.seq v9B3 (.seq v9B4 (.seq v9SW v9E)))))) v9I) := rfl

end Go.EX
