import Derived.Test.YtfmpeoickjggiaaGreatDoorC9
set_option linter.unusedVariables false
set_option linter.unusedSimpArgs false
namespace Go.EX
def d9R1 : XCode :=
  (.region [0, 4, 6, 7, 8] [⟨(some 38), .load none (.t 7), none⟩,
    ⟨(some 39), .load none (.t 7), none⟩,
    ⟨(some 40), .len (.t 39), none⟩,
    ⟨(some 41), .bin .sub (.t 40) (.c (.int .i64 1)), none⟩,
    ⟨(some 42), .idxA 1 (.t 38) (.t 41), none⟩,
    ⟨(some 43), .load none (.t 42), none⟩,
    ⟨(some 8), .mv (.t 43), none⟩])
def d9R2 : XCode :=
  (.region [0, 4, 6, 7, 8] [⟨(some 44), .load none (.t 7), none⟩,
    ⟨(some 45), .load none (.t 7), none⟩,
    ⟨(some 46), .len (.t 45), none⟩,
    ⟨(some 47), .bin .sub (.t 46) (.c (.int .i64 1)), none⟩,
    ⟨(some 48), .slice 1 (.t 44) none (some (.t 47)), none⟩,
    ⟨none, .store 1 (.t 7) (.t 48), none⟩])
def d9R3 : XCode :=
  (.region [0, 4, 6, 7, 8, 9] [⟨(some 49), .fieldA 5 (.t 6), none⟩,
    ⟨(some 50), .load none (.t 49), none⟩,
    ⟨(some 51), .mv (.t 8), none⟩,
    ⟨(some 52), .idxA 2 (.t 50) (.t 51), none⟩,
    ⟨(some 53), .load (some 2) (.t 52), none⟩,
    ⟨(some 9), .alloc [(.int .u8 0), (.int .i64 0)], none⟩,
    ⟨none, .store 2 (.t 9) (.t 53), none⟩])
def d9R4 : XCode :=
  (.region [0, 4, 6, 7, 8, 9, 10] [⟨(some 54), .mv (.t 0), none⟩,
    ⟨(some 55), .fieldA 0 (.t 9), none⟩,
    ⟨(some 56), .load none (.t 55), none⟩,
    ⟨(some 57), .nilCheck (.t 54), none⟩,
    ⟨(some 58), .fieldA 1 (.t 57), none⟩,
    ⟨(some 59), .idxP 31 4 (.t 58) (.t 56), none⟩,
    ⟨(some 60), .load (some 4) (.t 59), none⟩,
    ⟨(some 10), .alloc [(.int .u8 0), (.int .i64 0), (.int .i64 0), (.int .i64 0)], none⟩,
    ⟨none, .store 4 (.t 10) (.t 60), none⟩])
def d9R5 : XCode :=
  (.region [0, 4, 6, 7, 8, 9, 10, 11] [⟨(some 61), .load none (.t 4), none⟩,
    ⟨(some 62), .mv (.t 8), none⟩,
    ⟨(some 63), .idxA 1 (.t 61) (.t 62), none⟩,
    ⟨(some 64), .load none (.t 63), none⟩,
    ⟨(some 65), .fieldA 1 (.t 10), none⟩,
    ⟨(some 66), .load none (.t 65), none⟩,
    ⟨(some 67), .bin .sub (.t 64) (.t 66), none⟩,
    ⟨(some 68), .fieldA 3 (.t 10), none⟩,
    ⟨(some 69), .load none (.t 68), none⟩,
    ⟨(some 70), .fieldA 1 (.t 9), none⟩,
    ⟨(some 71), .load none (.t 70), none⟩,
    ⟨(some 72), .bin .mul (.t 69) (.t 71), none⟩,
    ⟨(some 73), .bin .sub (.t 67) (.t 72), none⟩,
    ⟨(some 11), .mv (.t 73), none⟩])
def d9R6 : XCode :=
  (.seq (.region [0, 4, 6, 7, 8, 9, 10, 11, 94] [⟨(some 74), .mv (.t 11), none⟩,
    ⟨(some 75), .bin .lss (.t 74) (.c (.int .i64 0)), none⟩,
    ⟨(some 76), .mv (.t 75), none⟩,
    ⟨(some 77), .mv (.t 11), some (76, false)⟩,
    ⟨(some 78), .fieldA 2 (.t 10), some (76, false)⟩,
    ⟨(some 79), .load none (.t 78), some (76, false)⟩,
    ⟨(some 80), .bin .add (.t 77) (.t 79), some (76, false)⟩,
    ⟨(some 81), .bin .gtr (.t 80) (.c (.int .i64 256)), some (76, false)⟩,
    ⟨(some 82), .pick (.t 76) (.c (.bool true)) (.t 81), none⟩,
    ⟨(some 83), .mv (.t 82), none⟩,
    ⟨(some 84), .fieldA 0 (.t 9), some (83, false)⟩,
    ⟨(some 85), .load none (.t 84), some (83, false)⟩,
    ⟨(some 86), .bin .eql (.t 85) (.c (.int .u8 21)), some (83, false)⟩,
    ⟨(some 87), .mv (.t 86), some (83, false)⟩,
    ⟨(some 88), .load none (.t 4), some (87, true)⟩,
    ⟨(some 89), .mv (.t 8), some (87, true)⟩,
    ⟨(some 90), .idxA 1 (.t 88) (.t 89), some (87, true)⟩,
    ⟨(some 91), .load none (.t 90), some (87, true)⟩,
    ⟨(some 92), .bin .neq (.t 91) (.c (.int .i64 0)), some (87, true)⟩,
    ⟨(some 93), .pick (.t 87) (.t 92) (.c (.bool false)), some (83, false)⟩,
    ⟨(some 94), .pick (.t 83) (.c (.bool true)) (.t 93), none⟩])
  (.cond (.t 94)
    (.seq (.region [4, 5] [⟨(some 95), .mv (.t 8), none⟩,
      ⟨none, .store 1 (.t 4) (.c (.slice none 0 0)), none⟩,
      ⟨(some 5), .mv (.t 95), none⟩])
    .ret)
    .skip))
def d9R7 : XCode :=
  (.region [0, 4, 6, 7, 8, 9, 10, 11, 12] [⟨(some 12), .alloc [(.bool false)], none⟩,
    ⟨none, .store 1 (.t 12) (.c (.bool true)), none⟩])
def d9R8 : XCode :=
  (.region [0, 4, 6, 7, 8, 9, 10, 11, 12, 13] [⟨(some 96), .mkClo 249 [(.t 4), (.t 7), (.t 12)], none⟩,
    ⟨(some 13), .mv (.t 96), none⟩])
def d9R9 : XCode :=
  (.seq (.region [0, 4, 6, 7, 8, 9, 10, 11, 12, 13, 98, 99, 100] [⟨(some 97), .fieldA 7 (.t 6), none⟩,
    ⟨(some 98), .load none (.t 97), none⟩,
    ⟨(some 99), .len (.t 98), none⟩,
    ⟨(some 100), .mv (.c (.int .i64 0)), none⟩])
  (.block 4 (.loop [0, 4, 6, 7, 8, 9, 10, 11, 12, 13, 98, 99, 100] x248L2)))
def d9R10 : XCode :=
  (.region [0, 4, 6, 7, 8, 9, 11, 12, 13] [⟨(some 123), .mv (.t 11), none⟩,
    ⟨(some 124), .fieldA 2 (.t 10), none⟩,
    ⟨(some 125), .load none (.t 124), none⟩,
    ⟨(some 126), .bin .add (.t 123) (.t 125), none⟩,
    ⟨(some 11), .mv (.t 126), none⟩])
def d9SW : XCode :=
  (.seq (.region [0, 4, 6, 7, 8, 9, 11, 12, 13, 128] [⟨(some 127), .fieldA 0 (.t 9), none⟩,
    ⟨(some 128), .load none (.t 127), none⟩])
  (.block 6 (.seq (.seq (.region [0, 4, 6, 7, 8, 9, 11, 12, 13, 128, 134] [⟨(some 135), .bin .eql (.t 128) (.c (.int .u8 28)), none⟩,
    ⟨(some 134), .mv (.t 135), none⟩])
  (.cond (.t 134)
    .skip
    (.region [0, 4, 6, 7, 8, 9, 11, 12, 13, 128, 134] [⟨(some 136), .bin .eql (.t 128) (.c (.int .u8 29)), none⟩,
      ⟨(some 134), .mv (.t 136), none⟩])))
  (.cond (.t 134)
    .skip
    (.seq (.seq (.region [0, 4, 6, 7, 8, 9, 11, 12, 13, 128, 137] [⟨(some 138), .bin .eql (.t 128) (.c (.int .u8 19)), none⟩,
      ⟨(some 137), .mv (.t 138), none⟩])
    (.cond (.t 137)
      .skip
      (.region [0, 4, 6, 7, 8, 9, 11, 12, 13, 128, 137] [⟨(some 139), .bin .eql (.t 128) (.c (.int .u8 21)), none⟩,
        ⟨(some 137), .mv (.t 139), none⟩])))
    (.cond (.t 137)
      (.region [0, 4, 6, 7, 8, 12] [⟨(some 140), .mv (.t 13), none⟩,
        ⟨(some 141), .fieldA 1 (.t 9), none⟩,
        ⟨(some 142), .load none (.t 141), none⟩,
        ⟨(some 143), .mv (.t 11), none⟩,
        ⟨(some 144), .callV (.t 140) [(.t 142), (.t 143)], none⟩])
      (.seq (.region [0, 4, 6, 7, 8, 9, 11, 12, 13, 145] [⟨(some 146), .bin .eql (.t 128) (.c (.int .u8 20)), none⟩,
        ⟨(some 145), .mv (.t 146), none⟩])
      (.cond (.t 145)
        (.seq (.region [0, 4, 6, 7, 8, 9, 11, 12, 13] [⟨(some 147), .mv (.t 13), none⟩,
          ⟨(some 148), .mv (.t 8), none⟩,
          ⟨(some 149), .bin .add (.t 148) (.c (.int .i64 1)), none⟩,
          ⟨(some 150), .mv (.t 11), none⟩,
          ⟨(some 151), .callV (.t 147) [(.t 149), (.t 150)], none⟩])
        (.region [0, 4, 6, 7, 8, 12] [⟨(some 152), .mv (.t 13), none⟩,
          ⟨(some 153), .fieldA 1 (.t 9), none⟩,
          ⟨(some 154), .load none (.t 153), none⟩,
          ⟨(some 155), .mv (.t 11), none⟩,
          ⟨(some 156), .callV (.t 152) [(.t 154), (.t 155)], none⟩]))
        (.region [0, 4, 6, 7, 8, 12] [⟨(some 129), .mv (.t 13), none⟩,
          ⟨(some 130), .mv (.t 8), none⟩,
          ⟨(some 131), .bin .add (.t 130) (.c (.int .i64 1)), none⟩,
          ⟨(some 132), .mv (.t 11), none⟩,
          ⟨(some 133), .callV (.t 129) [(.t 131), (.t 132)], none⟩])))))))))
def d9R12 : XCode :=
  (.seq (.region [0, 4, 6, 7, 8, 158] [⟨(some 157), .load none (.t 12), none⟩,
    ⟨(some 158), .un .not (.t 157), none⟩])
  (.cond (.t 158)
    (.seq (.region [4, 5] [⟨(some 159), .mv (.t 8), none⟩,
      ⟨none, .store 1 (.t 4) (.c (.slice none 0 0)), none⟩,
      ⟨(some 5), .mv (.t 159), none⟩])
    .ret)
    .skip))
def d9A : XCode :=
  (.seq (.region [0, 4, 6, 7, 37] [⟨(some 35), .load none (.t 7), none⟩,
    ⟨(some 36), .len (.t 35), none⟩,
    ⟨(some 37), .bin .gtr (.t 36) (.c (.int .i64 0)), none⟩])
  (.cond (.t 37)
    .skip
    (.exit 2)))
def d9P (X : XCode) : XCode := .seq d9R1 (.seq d9R2 (.seq d9R3 (.seq d9R4 (.seq d9R5 (.seq d9R6 (.seq d9R7 (.seq d9R8 X)))))))
def d9T : XCode := .seq d9R10 (.seq d9SW d9R12)
theorem x248L3_eq : x248L3 = .seq d9A (.block 3 (d9P (.seq d9R9 d9T))) := rfl
end Go.EX

