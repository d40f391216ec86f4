import Derived.Test.YtbomedbbgfcncaaDoorC4b
namespace Go.EX
def x98S : XFun := ⟨[],
  (.seq (.seq (.region [0, 1, 18] [⟨(some 4), .mv (.t 0), none⟩,
    ⟨(some 5), .nilCheck (.t 4), none⟩,
    ⟨(some 6), .fieldA 2 (.t 5), none⟩,
    ⟨(some 7), .load none (.t 6), none⟩,
    ⟨(some 8), .mv (.t 7), none⟩,
    ⟨(some 9), .mv (.t 0), some (8, false)⟩,
    ⟨(some 10), .nilCheck (.t 9), some (8, false)⟩,
    ⟨(some 11), .fieldA 1 (.t 10), some (8, false)⟩,
    ⟨(some 12), .load none (.t 11), some (8, false)⟩,
    ⟨(some 13), .len (.t 12), some (8, false)⟩,
    ⟨(some 14), .mv (.t 1), some (8, false)⟩,
    ⟨(some 15), .lenS (.t 14), some (8, false)⟩,
    ⟨(some 16), .bin .add (.t 13) (.t 15), some (8, false)⟩,
    ⟨(some 17), .bin .gtr (.t 16) (.c (.int .i64 4096)), some (8, false)⟩,
    ⟨(some 18), .pick (.t 8) (.c (.bool true)) (.t 17), none⟩])
  (.cond (.t 18)
    (.seq (.region [] [⟨(some 19), .mv (.t 0), none⟩,
      ⟨(some 20), .nilCheck (.t 19), none⟩,
      ⟨(some 21), .fieldA 2 (.t 20), none⟩,
      ⟨none, .store 1 (.t 21) (.c (.bool true)), none⟩])
    .ret)
    .skip))
  (.region [] [⟨(some 22), .mv (.t 0), none⟩,
    ⟨(some 23), .mv (.t 0), none⟩,
    ⟨(some 24), .nilCheck (.t 23), none⟩,
    ⟨(some 25), .fieldA 1 (.t 24), none⟩,
    ⟨(some 26), .load none (.t 25), none⟩,
    ⟨(some 27), .mv (.t 1), none⟩,
    ⟨(some 28), .bytesOf (.t 27), none⟩,
    ⟨(some 29), .appendS (.t 26) (.t 28), none⟩,
    ⟨(some 30), .nilCheck (.t 22), none⟩,
    ⟨(some 31), .fieldA 1 (.t 30), none⟩,
    ⟨none, .store 1 (.t 31) (.t 29), none⟩]))⟩
end Go.EX

