import Derived.Test.YtkmdbfhagicidaaGreatDoorRows
import Derived.Test.YtkmdbfhagicidaaGreatDoorBld2
import Derived.Test.YtkmdbfhagicidaaGreatDoorK1
import Derived.Test.YtkmdbfhagicidaaGreatDoorK8
import Derived.Laws.Strings
import Derived.Lib.ItoaLen
set_option maxRecDepth 100000
set_option maxHeartbeats 1000000
set_option linter.unusedVariables false
set_option linter.unusedSimpArgs false
namespace Go.Proofs.YtkmdbfhagicidaaGreatDoor
open Go.Shelf Go.RowKit
theorem zbr (b o : Nat) (w : World) (h0 : w.cell? ⟨b, o, none⟩ = some (.pointer (some ⟨b, o, none⟩))) :
  Calls Tryz.prog 144 #[.pointer (some ⟨b, o, none⟩)] w fun e w' => e = .returned (.tuple #[]) ∧ w' = w := by
 obtain ⟨j, hj, _⟩ := Option.map_eq_some_iff.1 (show (Tryz.prog.info? 224).map (·.size) = some 2 by kernel_rfl)
 have t224 := Tryz.underlying224; have a224 := Tryz.isAgg224; have z224 := Tryz.sizeOf224; have v224 := Tryz.zeroValue224; have u224 := run_underlying Tryz.underlying224
 have t221 := Tryz.underlying221; have a221 := Tryz.isAgg221; have z221 := Tryz.sizeOf221; have v221 := Tryz.zeroValue221; have u221 := run_underlying Tryz.underlying221
 have t4 := Tryz.underlying4; have a4 := Tryz.isAgg4; have z4 := Tryz.sizeOf4; have v4 := Tryz.zeroValue4; have u4 := run_underlying Tryz.underlying4
 go_enter Tryz.func144, Tryz.ntmps144
 go_wp2
 rw [Lib.run_neq_ptr_same w _ Tryz.underlying221 hj]
 go_wp2
 go_end0
 exact ⟨rfl, rfl⟩
theorem zbq (b o n : Nat) (e : TypeId) (w : World) (h0 : w.cell? ⟨b, o, none⟩ = some (.pointer none)) (hsh : w.shape? b = some (e, n)) (ho : o < n) (hlies : liesAt Tryz.prog Tryz.prog.depth e (n / Tryz.prog.cellsOf e) o 224 1 = true) (hfz : w.frozen? ⟨b, o, none⟩ = false) :
  Calls Tryz.prog 144 #[.pointer (some ⟨b, o, none⟩)] w fun e w' => e = .returned (.tuple #[]) ∧ w' = w.setCell ⟨b, o, none⟩ (.pointer (some ⟨b, o, none⟩)) := by
 obtain ⟨j, hj, hjs⟩ := Option.map_eq_some_iff.1 (show (Tryz.prog.info? 224).map (·.size) = some 2 by kernel_rfl)
 have t224 := Tryz.underlying224; have a224 := Tryz.isAgg224; have z224 := Tryz.sizeOf224; have v224 := Tryz.zeroValue224; have u224 := run_underlying Tryz.underlying224
 have t221 := Tryz.underlying221; have a221 := Tryz.isAgg221; have z221 := Tryz.sizeOf221; have v221 := Tryz.zeroValue221; have u221 := run_underlying Tryz.underlying221
 have t4 := Tryz.underlying4; have a4 := Tryz.isAgg4; have z4 := Tryz.sizeOf4; have v4 := Tryz.zeroValue4; have u4 := run_underlying Tryz.underlying4
 have t245 := Tryz.underlying245; have a245 := Tryz.isAgg245; have z245 := Tryz.sizeOf245; have v245 := Tryz.zeroValue245; have u245 := run_underlying Tryz.underlying245
 go_enter Tryz.func144, Tryz.ntmps144
 go_wp2
 rw [Lib.run_to_unsafe w ⟨b, o, none⟩ Tryz.underlying221 Tryz.underlying245 hj (by rw [hjs]; decide) hsh ho]
 simp only [Result.andThen]
 rw [Oper.upon_value]
 go_wp2
 rw [run_callFunc_extern Tryz.func155 (by kernel_rfl) (by kernel_rfl) (by kernel_rfl) (e := Extern.AbiNoEscape.same) (by kernel_rfl)]
 rw [Lib.run_noEscape]
 simp only [Result.andThen]
 rw [Oper.upon_value]
 go_wp2
 rw [Lib.run_from_unsafe w ⟨b, o, none⟩ Tryz.underlying245 Tryz.underlying221 hj hsh hlies]
 simp only [Result.andThen]
 rw [Oper.upon_value]
 go_wp2
 go_end0
 exact ⟨rfl, rfl⟩
theorem checkFacts : CheckFacts Tryz.prog 144 224 := ⟨zbr, zbq⟩
end Go.Proofs.YtkmdbfhagicidaaGreatDoor


namespace Go.EX
def x673 : XFun :=
 ⟨[.tmp 4,.tmp 5],(.seq (.region [0, 1] [o0 4 (.mv (.c (.int .i64 0))),
 o0 5 (.mv (.c .nilIface))]) (.seq (.region [0, 1] [o0 6 (.mv (.t 0)),
 o0 7 (.call .share 674 [.t 6])]) (.seq (.region [1] [o0 8 (.mv (.t 0)),
 o0 9 (.mv (.t 0)),
 o0 10 (.nilCheck (.t 9)),
 o0 11 (.fieldA 1 (.t 10)),
 o0 12 (.load none (.t 11)),
 o0 13 (.mv (.t 1)),
 o0 14 (.appendS (.t 12) (.t 13)),
 o0 15 (.nilCheck (.t 8)),
 o0 16 (.fieldA 1 (.t 15)),
 o2 (.store 1 (.t 16) (.t 14))]) (.seq (.region [4, 5] [o0 17 (.mv (.t 1)),
 o0 18 (.lenS (.t 17)),
 o0 4 (.mv (.t 18)),
 o0 5 (.mv (.c .nilIface))]) .ret))))⟩
def x785 : XFun :=
 ⟨[.tmp 4],(.seq (.region [0, 1] [o0 4 (.mv (.c (.string .empty)))]) (.seq (.region [4] [o0 5 (.mv (.t 0)),
 o0 6 (.mv (.t 1)),
 o0 7 (.call .view 708 [(.t 5),(.t 6)]),
 o0 4 (.mv (.t 7))]) .ret))⟩
def x786 : XFun :=
 ⟨[.tmp 2],(.seq (.region [0] [o0 2 (.mv (.c (.string .empty)))]) (.seq (.region [2] [o0 3 (.mv (.t 0)),
 o0 4 (.call .view 709 [.t 3]),
 o0 2 (.mv (.t 4))]) .ret))⟩
def x669 : XFun :=
 ⟨[.tmp 2],(.seq (.region [0] [o0 2 (.mv (.c (.int .i64 0)))]) (.seq (.region [2] [o0 3 (.mv (.t 0)),
 o0 4 (.nilCheck (.t 3)),
 o0 5 (.fieldA 1 (.t 4)),
 o0 6 (.load none (.t 5)),
 o0 7 (.len (.t 6)),
 o0 2 (.mv (.t 7))]) .ret))⟩
def x709 : XFun :=
 ⟨[.tmp 2],(.seq (.region [0] [o0 2 (.mv (.c (.string .empty)))]) (.seq (.region [2] [o0 3 (.mv (.t 0)),
 o0 4 (.call .view 708 [(.t 3),(.c (.int .i64 10))]),
 o0 2 (.mv (.t 4))]) .ret))⟩
end Go.EX


namespace Go.EX
def x450L1 : XCode :=
 (.seq (.seq (.region [0, 5, 6, 7, 8, 9, 10, 11, 12, 13, 14, 15, 52] [o0 49 (.mv (.t 15)),
 o0 50 (.mv (.t 0)),
 o0 51 (.lenS (.t 50)),
 o0 52 (.bin .lss (.t 49) (.t 51))]) (.cond (.t 52) .skip (.exit 0))) (.seq (.block 1 (.seq (.region [0, 5, 6, 7, 8, 9, 10, 11, 12, 13, 14, 15, 58] [o0 55 (.mv (.t 0)),
 o0 56 (.mv (.t 15)),
 o0 57 (.idxS (.t 55) (.t 56)),
 o0 58 (.bin .eql (.t 57) (.c (.int .u8 10)))]) (.cond (.t 58) (.region [0, 5, 6, 7, 8, 9, 10, 11, 12, 13, 14, 15] [o0 59 (.mv (.t 14)),
 o0 60 (.bin .add (.t 59) (.c (.int .i64 1))),
 o0 14 (.mv (.t 60))]) .skip))) (.region [0, 5, 6, 7, 8, 9, 10, 11, 12, 13, 14, 15] [o0 53 (.mv (.t 15)),
 o0 54 (.bin .add (.t 53) (.c (.int .i64 1))),
 o0 15 (.mv (.t 54))])))
def x450L2 : XCode :=
 (.seq (.seq (.region [5, 8, 11, 14, 16, 98] [o0 95 (.mv (.t 16)),
 o0 96 (.mv (.t 8)),
 o0 97 (.len (.t 96)),
 o0 98 (.bin .lss (.t 95) (.t 97))]) (.cond (.t 98) .skip (.exit 2))) (.seq (.block 3 (.region [5, 8, 11, 14, 16] [o0 101 (.mv (.t 8)),
 o0 102 (.mv (.t 16)),
 o0 103 (.mv (.t 8)),
 o0 104 (.mv (.t 16)),
 o0 105 (.idxA 4 (.t 103) (.t 104)),
 o0 106 (.fieldA 3 (.t 105)),
 o0 107 (.load none (.t 106)),
 o0 108 (.mv (.t 14)),
 o0 109 (.bin .add (.t 107) (.t 108)),
 o0 110 (.idxA 4 (.t 101) (.t 102)),
 o0 111 (.fieldA 3 (.t 110)),
 o2 (.store 1 (.t 111) (.t 109))])) (.region [5, 8, 11, 14, 16] [o0 99 (.mv (.t 16)),
 o0 100 (.bin .add (.t 99) (.c (.int .i64 1))),
 o0 16 (.mv (.t 100))])))
def x450 : XFun :=
 ⟨[.tmp 4],(.seq (.region [0, 1] [o0 4 (.mv (.c (.bool false)))]) (.seq (.seq (.region [0, 1, 26] [o0 17 (.call .view 453 []),
 o0 18 (.un .not (.t 17)),
 o0 19 (.mv (.t 18)),
 o1 20 19 false (.mv (.t 0)),
 o1 21 19 false (.lenS (.t 20)),
 o1 22 19 false (.mv (.t 1)),
 o1 23 19 false (.lenS (.t 22)),
 o1 24 19 false (.bin .add (.t 21) (.t 23)),
 o1 25 19 false (.bin .gtr (.t 24) (.c (.int .i64 65535))),
 o0 26 (.pick (.t 19) (.c (.bool true)) (.t 25))]) (.cond (.t 26) (.seq (.region [4] [o0 27 (.call .view 453 []),
 o0 4 (.mv (.t 27))]) .ret) .skip)) (.seq (.region [0, 1, 5, 6, 7] [o0 29 (.mv (.t 0)),
 o0 30 (.call .own 568 [.t 29]),
 o0 28 (.mv (.t 30)),
 o0 31 (.extract (.t 28) 0),
 o0 32 (.extract (.t 28) 1),
 o0 33 (.extract (.t 28) 2),
 o0 5 (.mv (.t 31)),
 o0 6 (.mv (.t 32)),
 o0 7 (.mv (.t 33))]) (.seq (.region [0, 1, 5, 6, 7, 8, 9, 10] [o0 35 (.mv (.t 1)),
 o0 36 (.call .own 568 [.t 35]),
 o0 34 (.mv (.t 36)),
 o0 37 (.extract (.t 34) 0),
 o0 38 (.extract (.t 34) 1),
 o0 39 (.extract (.t 34) 2),
 o0 8 (.mv (.t 37)),
 o0 9 (.mv (.t 38)),
 o0 10 (.mv (.t 39))]) (.seq (.region [0, 5, 6, 7, 8, 9, 10, 11, 12, 13] [o0 41 (.mv (.t 0)),
 o0 42 (.bin .add (.t 41) (.c (.string ⟨#[10]⟩))),
 o0 43 (.mv (.t 1)),
 o0 44 (.bin .add (.t 42) (.t 43)),
 o0 45 (.call .own 568 [.t 44]),
 o0 40 (.mv (.t 45)),
 o0 46 (.extract (.t 40) 0),
 o0 47 (.extract (.t 40) 1),
 o0 48 (.extract (.t 40) 2),
 o0 11 (.mv (.t 46)),
 o0 12 (.mv (.t 47)),
 o0 13 (.mv (.t 48))]) (.seq (.region [0, 5, 6, 7, 8, 9, 10, 11, 12, 13, 14] [o0 14 (.mv (.c (.int .i64 1)))]) (.seq (.seq (.region [0, 5, 6, 7, 8, 9, 10, 11, 12, 13, 14, 15] [o0 15 (.mv (.c (.int .i64 0)))]) (.block 0 (.loop [0, 5, 6, 7, 8, 9, 10, 11, 12, 13, 14, 15] x450L1))) (.seq (.seq (.region [5, 6, 7, 8, 9, 10, 11, 12, 13, 14, 62] [o0 61 (.mv (.t 7)),
 o0 62 (.bin .neq (.t 61) (.c (.int .i64 0)))]) (.cond (.t 62) (.seq (.region [4] [o0 63 (.mv (.t 13)),
 o0 64 (.mv (.t 7)),
 o0 65 (.bin .eql (.t 63) (.t 64)),
 o0 66 (.mv (.t 65)),
 o1 67 66 true (.mv (.t 12)),
 o1 68 66 true (.mv (.t 6)),
 o1 69 66 true (.bin .eql (.t 67) (.t 68)),
 o0 70 (.pick (.t 66) (.t 69) (.c (.bool false))),
 o0 4 (.mv (.t 70))]) .ret) .skip)) (.seq (.seq (.region [5, 8, 9, 10, 11, 12, 13, 14, 72] [o0 71 (.mv (.t 10)),
 o0 72 (.bin .neq (.t 71) (.c (.int .i64 0)))]) (.cond (.t 72) (.seq (.region [4] [o0 73 (.mv (.t 13)),
 o0 74 (.mv (.t 10)),
 o0 75 (.bin .eql (.t 73) (.t 74)),
 o0 76 (.mv (.t 75)),
 o1 77 76 true (.mv (.t 12)),
 o1 78 76 true (.mv (.t 9)),
 o1 79 76 true (.mv (.t 14)),
 o1 80 76 true (.bin .add (.t 78) (.t 79)),
 o1 81 76 true (.bin .eql (.t 77) (.t 80)),
 o0 82 (.pick (.t 76) (.t 81) (.c (.bool false))),
 o0 4 (.mv (.t 82))]) .ret) .skip)) (.seq (.seq (.region [5, 8, 11, 14, 94] [o0 83 (.mv (.t 13)),
 o0 84 (.bin .neq (.t 83) (.c (.int .i64 0))),
 o0 85 (.mv (.t 84)),
 o1 86 85 false (.mv (.t 11)),
 o1 87 85 false (.len (.t 86)),
 o1 88 85 false (.mv (.t 5)),
 o1 89 85 false (.len (.t 88)),
 o1 90 85 false (.mv (.t 8)),
 o1 91 85 false (.len (.t 90)),
 o1 92 85 false (.bin .add (.t 89) (.t 91)),
 o1 93 85 false (.bin .neq (.t 87) (.t 92)),
 o0 94 (.pick (.t 85) (.c (.bool true)) (.t 93))]) (.cond (.t 94) (.seq (.region [4] [o0 4 (.mv (.c (.bool false)))]) .ret) .skip)) (.seq (.seq (.region [5, 8, 11, 14, 16] [o0 16 (.mv (.c (.int .i64 0)))]) (.block 2 (.loop [5, 8, 11, 14, 16] x450L2))) (.seq (.region [4] [o0 112 (.mv (.t 11)),
 o0 113 (.mv (.t 5)),
 o0 114 (.mv (.t 8)),
 o0 115 (.append 4 40 (.t 113) (.t 114)),
 o0 116 (.call .view 358 [(.t 112),(.t 115)]),
 o0 4 (.mv (.t 116))]) .ret))))))))))))⟩
def x568L1 : XCode :=
 (.seq (.seq (.region [5, 6, 21] [o0 17 (.mv (.t 5)),
 o0 18 (.nilCheck (.t 17)),
 o0 19 (.fieldA 0 (.t 18)),
 o0 20 (.load none (.t 19)),
 o0 21 (.bin .neq (.t 20) (.c (.string .empty)))]) (.cond (.t 21) .skip (.exit 0))) (.seq (.block 1 (.seq (.region [5, 6, 7, 8] [o0 25 (.mv (.t 5)),
 o0 26 (.call .share 194 [.t 25]),
 o0 24 (.mv (.t 26)),
 o0 27 (.extract (.t 24) 0),
 o0 28 (.extract (.t 24) 1),
 o0 7 (.alloc [(.int .u8 0),(.string .empty),(.int .i64 0),(.int .i64 0)]),
 o2 (.store 4 (.t 7) (.t 27)),
 o0 8 (.mv (.t 28))]) (.seq (.seq (.region [5, 6, 7, 30] [o0 29 (.mv (.t 8)),
 o0 30 (.un .not (.t 29))]) (.cond (.t 30) (.seq (.region [2, 3, 4] [o0 31 (.mv (.t 5)),
 o0 32 (.nilCheck (.t 31)),
 o0 33 (.fieldA 1 (.t 32)),
 o0 34 (.load none (.t 33)),
 o0 2 (.mv (.c (.slice none 0 0))),
 o0 3 (.mv (.t 34)),
 o0 4 (.mv (.c (.int .i64 4)))]) .ret) .skip)) (.region [5, 6] [o0 35 (.mv (.t 6)),
 o0 36 (.load (some 4) (.t 7)),
 o0 37 (.buildSlice 4 [(.int .u8 0),(.string .empty),(.int .i64 0),(.int .i64 0)] 1 [(0, 4,(.t 36))]),
 o0 38 (.append 4 40 (.t 35) (.t 37)),
 o0 6 (.mv (.t 38))])))) (.region [5, 6] [o0 22 (.mv (.t 5)),
 o0 23 (.call .share 189 [.t 22])])))
def x568 : XFun :=
 ⟨[.tmp 2,.tmp 3,.tmp 4],(.seq (.region [0] [o0 2 (.mv (.c (.slice none 0 0))),
 o0 3 (.mv (.c (.int .i64 0))),
 o0 4 (.mv (.c (.int .i64 0)))]) (.seq (.seq (.region [0, 11] [o0 9 (.mv (.t 0)),
 o0 10 (.lenS (.t 9)),
 o0 11 (.bin .gtr (.t 10) (.c (.int .i64 65536)))]) (.cond (.t 11) (.seq (.region [2, 3, 4] [o0 2 (.mv (.c (.slice none 0 0))),
 o0 3 (.mv (.c (.int .i64 0))),
 o0 4 (.mv (.c (.int .i64 3)))]) .ret) .skip)) (.seq (.region [5] [o0 12 (.mv (.t 0)),
 o0 13 (.build [(.string .empty),(.int .i64 0)] [(0, 1,(.t 12))]),
 o0 14 (.box 2 (.t 13)),
 o0 5 (.mv (.t 14))]) (.seq (.region [5, 6] [o0 6 (.mv (.c (.slice none 0 0)))]) (.seq (.seq (.region [5, 6] [o0 15 (.mv (.t 5)),
 o0 16 (.call .share 189 [.t 15])]) (.block 0 (.loop [5, 6] x568L1))) (.seq (.region [2, 3, 4] [o0 39 (.mv (.t 6)),
 o0 2 (.mv (.t 39)),
 o0 3 (.mv (.c (.int .i64 0))),
 o0 4 (.mv (.c (.int .i64 0)))]) .ret))))))⟩
def x358L1 : XCode :=
 (.seq (.seq (.region [0, 1, 5, 14] [o0 11 (.mv (.t 5)),
 o0 12 (.mv (.t 0)),
 o0 13 (.len (.t 12)),
 o0 14 (.bin .lss (.t 11) (.t 13))]) (.cond (.t 14) .skip (.exit 0))) (.seq (.block 1 (.seq (.region [0, 1, 5, 25] [o0 17 (.mv (.t 0)),
 o0 18 (.mv (.t 5)),
 o0 19 (.idxA 4 (.t 17) (.t 18)),
 o0 20 (.load (some 4) (.t 19)),
 o0 21 (.mv (.t 1)),
 o0 22 (.mv (.t 5)),
 o0 23 (.idxA 4 (.t 21) (.t 22)),
 o0 24 (.load (some 4) (.t 23)),
 o0 25 (.eqCells true [0, 2, 0, 0] (.t 20) (.t 24))]) (.cond (.t 25) (.seq (.region [4] [o0 4 (.mv (.c (.bool false)))]) .ret) .skip))) (.region [0, 1, 5] [o0 15 (.mv (.t 5)),
 o0 16 (.bin .add (.t 15) (.c (.int .i64 1))),
 o0 5 (.mv (.t 16))])))
def x358 : XFun :=
 ⟨[.tmp 4],(.seq (.region [0, 1] [o0 4 (.mv (.c (.bool false)))]) (.seq (.seq (.region [0, 1, 10] [o0 6 (.mv (.t 0)),
 o0 7 (.len (.t 6)),
 o0 8 (.mv (.t 1)),
 o0 9 (.len (.t 8)),
 o0 10 (.bin .neq (.t 7) (.t 9))]) (.cond (.t 10) (.seq (.region [4] [o0 4 (.mv (.c (.bool false)))]) .ret) .skip)) (.seq (.seq (.region [0, 1, 5] [o0 5 (.mv (.c (.int .i64 0)))]) (.block 0 (.loop [0, 1, 5] x358L1))) (.seq (.region [4] [o0 4 (.mv (.c (.bool true)))]) .ret))))⟩
def x189L1 : XCode :=
 (.seq (.region [0, 6, 7, 8] [o0 7 (.nextS (.t 6)),
 o0 8 (.extract (.t 7) 0)]) (.seq (.cond (.t 8) .skip (.exit 2)) (.block 3 (.seq (.region [0, 3, 6] [o0 9 (.extract (.t 7) 2),
 o0 3 (.mv (.t 9))]) (.seq (.region [0, 6, 11] [o0 10 (.mv (.t 3)),
 o0 11 (.bin .eql (.t 10) (.c (.int .i32 10)))]) (.cond (.t 11) (.region [0, 6] [o0 12 (.mv (.t 0)),
 o0 13 (.nilCheck (.t 12)),
 o0 14 (.fieldA 1 (.t 13)),
 o0 15 (.load none (.t 14)),
 o0 16 (.bin .add (.t 15) (.c (.int .i64 1))),
 o0 17 (.nilCheck (.t 12)),
 o0 18 (.fieldA 1 (.t 17)),
 o2 (.store 1 (.t 18) (.t 16))]) .skip))))))
def x189L2 : XCode :=
 (.block 1 (.seq (.seq (.region [0, 6] [o0 4 (.mv (.t 0)),
 o0 5 (.call .share 188 [(.t 4),(.f 190)]),
 o0 6 (.rangeS (.t 5))]) (.block 2 (.loop [0, 6] x189L1))) (.seq (.seq (.region [0, 24] [o0 19 (.mv (.t 0)),
 o0 20 (.nilCheck (.t 19)),
 o0 21 (.fieldA 0 (.t 20)),
 o0 22 (.load none (.t 21)),
 o0 23 (.call .view 798 [(.t 22),(.c (.string ⟨#[47, 47]⟩))]),
 o0 24 (.un .not (.t 23))]) (.cond (.t 24) .ret .skip)) (.region [0] [o0 25 (.mv (.t 0)),
 o0 26 (.call .share 188 [(.t 25),(.f 191)])]))))
def x189 : XFun :=
 ⟨[],(.block 0 (.loop [0] x189L2))⟩
def x194L1 : XCode :=
 (.seq (.region [0, 2, 70, 71, 72] [o0 72 (.bin .lss (.t 71) (.c (.int .i64 21)))]) (.seq (.cond (.t 72) .skip (.exit 1)) (.seq (.block 2 (.seq (.region [0, 2, 9, 70, 71] [o0 73 (.idxV 21 1 none (.t 70) (.t 71)),
 o0 9 (.mv (.t 73))]) (.seq (.region [0, 2, 9, 10, 11, 70, 71] [o0 75 (.mv (.t 0)),
 o0 76 (.nilCheck (.t 75)),
 o0 77 (.fieldA 0 (.t 76)),
 o0 78 (.load none (.t 77)),
 o0 79 (.mv (.t 9)),
 o0 80 (.call .view 796 [(.t 78),(.t 79)]),
 o0 74 (.mv (.t 80)),
 o0 81 (.extract (.t 74) 0),
 o0 82 (.extract (.t 74) 1),
 o0 10 (.mv (.t 81)),
 o0 11 (.mv (.t 82))]) (.seq (.region [0, 2, 9, 10, 70, 71, 83] [o0 83 (.mv (.t 11))]) (.cond (.t 83) (.seq (.region [2] [o0 84 (.mv (.t 0)),
 o0 85 (.mv (.t 9)),
 o0 86 (.mv (.t 10)),
 o0 87 (.fieldA 0 (.t 2)),
 o2 (.store 1 (.t 87) (.c (.int .u8 4))),
 o0 88 (.fieldA 1 (.t 2)),
 o2 (.store 1 (.t 88) (.t 85)),
 o0 89 (.nilCheck (.t 84)),
 o0 90 (.fieldA 0 (.t 89)),
 o2 (.store 1 (.t 90) (.t 86))]) (.seq (.region [2, 3] [o0 91 (.load (some 4) (.t 2)),
 o2 (.store 4 (.t 2) (.t 91)),
 o0 3 (.mv (.c (.bool true)))]) .ret)) .skip))))) (.region [0, 2, 70, 71] [o0 92 (.bin .add (.t 71) (.c (.int .i64 1))),
 o0 71 (.mv (.t 92))]))))
def x194 : XFun :=
 ⟨[.cell 2 (some 4),.tmp 3],(.seq (.region [0, 2] [o0 2 (.alloc [(.int .u8 0),(.string .empty),(.int .i64 0),(.int .i64 0)]),
 o0 3 (.mv (.c (.bool false)))]) (.seq (.region [0, 2] [o0 12 (.mv (.t 0)),
 o0 13 (.nilCheck (.t 12)),
 o0 14 (.fieldA 1 (.t 13)),
 o0 15 (.load none (.t 14)),
 o0 16 (.fieldA 3 (.t 2)),
 o2 (.store 1 (.t 16) (.t 15))]) (.seq (.seq (.region [0, 2, 4] [o0 17 (.mv (.t 0)),
 o0 18 (.nilCheck (.t 17)),
 o0 19 (.fieldA 0 (.t 18)),
 o0 20 (.load none (.t 19)),
 o0 21 (.idxS (.t 20) (.c (.int .i64 0))),
 o0 4 (.mv (.t 21))]) (.block 0 (.seq (.region [0, 2, 4, 22] [o0 23 (.mv (.t 4)),
 o0 24 (.bin .eql (.t 23) (.c (.int .u8 34))),
 o0 22 (.mv (.t 24))]) (.cond (.t 22) (.seq (.region [0, 2] [o0 25 (.fieldA 0 (.t 2)),
 o2 (.store 1 (.t 25) (.c (.int .u8 3)))]) (.seq (.region [2, 3] [o0 27 (.mv (.t 0)),
 o0 28 (.call .share 192 [.t 27]),
 o0 26 (.mv (.t 28)),
 o0 29 (.extract (.t 26) 0),
 o0 30 (.extract (.t 26) 1),
 o0 31 (.fieldA 1 (.t 2)),
 o2 (.store 1 (.t 31) (.t 29)),
 o0 3 (.mv (.t 30))]) (.seq (.region [2, 3] [o0 32 (.load (some 4) (.t 2)),
 o0 33 (.mv (.t 3)),
 o2 (.store 4 (.t 2) (.t 32)),
 o0 3 (.mv (.t 33))]) .ret))) (.seq (.region [0, 2, 4, 34] [o0 35 (.mv (.t 4)),
 o0 36 (.call .view 569 [.t 35]),
 o0 37 (.mv (.t 36)),
 o1 38 37 false (.mv (.t 4)),
 o1 39 37 false (.call .view 570 [.t 38]),
 o0 40 (.pick (.t 37) (.c (.bool true)) (.t 39)),
 o0 34 (.mv (.t 40))]) (.cond (.t 34) (.seq (.region [2, 4, 5] [o0 41 (.mv (.t 0)),
 o0 42 (.call .share 188 [(.t 41),(.f 195)]),
 o0 5 (.mv (.t 42))]) (.seq (.seq (.region [2, 5, 44] [o0 43 (.mv (.t 4)),
 o0 44 (.call .view 570 [.t 43])]) (.cond (.t 44) (.seq (.region [2, 5] [o0 45 (.mv (.t 5)),
 o0 46 (.call .view 793 [.t 45]),
 o0 47 (.fieldA 0 (.t 2)),
 o2 (.store 1 (.t 47) (.c (.int .u8 1))),
 o0 48 (.fieldA 1 (.t 2)),
 o2 (.store 1 (.t 48) (.t 46))]) (.seq (.region [2, 3] [o0 49 (.load (some 4) (.t 2)),
 o0 50 (.mv (.t 5)),
 o0 51 (.lenS (.t 50)),
 o0 52 (.bin .leq (.t 51) (.c (.int .i64 4096))),
 o2 (.store 4 (.t 2) (.t 49)),
 o0 3 (.mv (.t 52))]) .ret)) .skip)) (.seq (.region [2, 5, 6, 7] [o0 54 (.mv (.t 5)),
 o0 55 (.call .view 787 [(.t 54),(.c (.int .i64 10)),(.c (.int .i64 64))]),
 o0 53 (.mv (.t 55)),
 o0 56 (.extract (.t 53) 0),
 o0 57 (.extract (.t 53) 1),
 o0 6 (.mv (.t 56)),
 o0 7 (.mv (.t 57))]) (.seq (.region [2, 5, 6, 7] [o0 58 (.mv (.t 6)),
 o0 59 (.fieldA 0 (.t 2)),
 o2 (.store 1 (.t 59) (.c (.int .u8 2))),
 o0 60 (.fieldA 2 (.t 2)),
 o2 (.store 1 (.t 60) (.t 58))]) (.seq (.region [2, 3] [o0 61 (.load (some 4) (.t 2)),
 o0 62 (.mv (.t 7)),
 o0 63 (.eqNil false 4 (.t 62)),
 o0 64 (.mv (.t 63)),
 o1 65 64 true (.mv (.t 6)),
 o1 66 64 true (.call .view 785 [(.t 65),(.c (.int .i64 10))]),
 o1 67 64 true (.mv (.t 5)),
 o1 68 64 true (.bin .eql (.t 66) (.t 67)),
 o0 69 (.pick (.t 64) (.t 68) (.c (.bool false))),
 o2 (.restore 4 (.t 2) (.t 61)),
 o0 3 (.mv (.t 69))]) .ret))))) .skip)))))) (.seq (.seq (.region [0, 2, 70, 71] [o0 70 (.call .view 571 []),
 o0 71 (.mv (.c (.int .i64 0)))]) (.block 1 (.loop [0, 2, 70, 71] x194L1))) (.seq (.region [2, 3] [o0 93 (.load (some 4) (.t 2)),
 o2 (.store 4 (.t 2) (.t 93)),
 o0 3 (.mv (.c (.bool false)))]) .ret)))))⟩
def x188L1 : XCode :=
 (.seq (.seq (.region [0, 1, 5, 23] [o0 7 (.mv (.t 5)),
 o0 8 (.mv (.t 0)),
 o0 9 (.nilCheck (.t 8)),
 o0 10 (.fieldA 0 (.t 9)),
 o0 11 (.load none (.t 10)),
 o0 12 (.lenS (.t 11)),
 o0 13 (.bin .lss (.t 7) (.t 12)),
 o0 14 (.mv (.t 13)),
 o1 15 14 true (.mv (.t 1)),
 o1 16 14 true (.mv (.t 0)),
 o1 17 14 true (.nilCheck (.t 16)),
 o1 18 14 true (.fieldA 0 (.t 17)),
 o1 19 14 true (.load none (.t 18)),
 o1 20 14 true (.mv (.t 5)),
 o1 21 14 true (.idxS (.t 19) (.t 20)),
 o1 22 14 true (.callV (.t 15) [.t 21]),
 o0 23 (.pick (.t 14) (.t 22) (.c (.bool false)))]) (.cond (.t 23) .skip (.exit 0))) (.block 1 (.region [0, 1, 5] [o0 24 (.mv (.t 5)),
 o0 25 (.bin .add (.t 24) (.c (.int .i64 1))),
 o0 5 (.mv (.t 25))])))
def x188 : XFun :=
 ⟨[.tmp 4],(.seq (.region [0, 1] [o0 4 (.mv (.c (.string .empty)))]) (.seq (.region [0, 1, 5] [o0 5 (.mv (.c (.int .i64 0)))]) (.seq (.block 0 (.loop [0, 1, 5] x188L1)) (.seq (.region [0, 5, 6] [o0 26 (.mv (.t 0)),
 o0 27 (.nilCheck (.t 26)),
 o0 28 (.fieldA 0 (.t 27)),
 o0 29 (.load none (.t 28)),
 o0 30 (.mv (.t 5)),
 o0 31 (.sliceS (.t 29) none (some (.t 30))),
 o0 6 (.mv (.t 31))]) (.seq (.region [6] [o0 32 (.mv (.t 0)),
 o0 33 (.mv (.t 0)),
 o0 34 (.nilCheck (.t 33)),
 o0 35 (.fieldA 0 (.t 34)),
 o0 36 (.load none (.t 35)),
 o0 37 (.mv (.t 5)),
 o0 38 (.sliceS (.t 36) (some (.t 37)) none),
 o0 39 (.nilCheck (.t 32)),
 o0 40 (.fieldA 0 (.t 39)),
 o2 (.store 1 (.t 40) (.t 38))]) (.seq (.region [4] [o0 41 (.mv (.t 6)),
 o0 4 (.mv (.t 41))]) .ret))))))⟩
def x190 : XFun :=
 ⟨[.tmp 2],(.seq (.region [0] [o0 2 (.mv (.c (.bool false)))]) (.seq (.region [2] [o0 3 (.mv (.t 0)),
 o0 4 (.bin .eql (.t 3) (.c (.int .u8 32))),
 o0 5 (.mv (.t 4)),
 o1 6 5 false (.mv (.t 0)),
 o1 7 5 false (.bin .eql (.t 6) (.c (.int .u8 9))),
 o0 8 (.pick (.t 5) (.c (.bool true)) (.t 7)),
 o0 9 (.mv (.t 8)),
 o1 10 9 false (.mv (.t 0)),
 o1 11 9 false (.bin .eql (.t 10) (.c (.int .u8 10))),
 o0 12 (.pick (.t 9) (.c (.bool true)) (.t 11)),
 o0 2 (.mv (.t 12))]) .ret))⟩
def x798 : XFun :=
 ⟨[.tmp 4],(.seq (.region [0, 1] [o0 4 (.mv (.c (.bool false)))]) (.seq (.region [4] [o0 5 (.mv (.t 0)),
 o0 6 (.mv (.t 1)),
 o0 7 (.call .view 725 [(.t 5),(.t 6)]),
 o0 4 (.mv (.t 7))]) .ret))⟩
def x191 : XFun :=
 ⟨[.tmp 2],(.seq (.region [0] [o0 2 (.mv (.c (.bool false)))]) (.seq (.region [2] [o0 3 (.mv (.t 0)),
 o0 4 (.bin .neq (.t 3) (.c (.int .u8 10))),
 o0 2 (.mv (.t 4))]) .ret))⟩
def x192L1 : XCode :=
 (.block 1 (.seq (.region [0, 4] [o0 13 (.mv (.t 0)),
 o0 14 (.call .share 188 [(.t 13),(.f 193)]),
 o0 15 (.call .share 673 [(.t 4),(.t 14)])]) (.seq (.block 2 (.seq (.region [0, 4, 16] [o0 17 (.mv (.t 0)),
 o0 18 (.nilCheck (.t 17)),
 o0 19 (.fieldA 0 (.t 18)),
 o0 20 (.load none (.t 19)),
 o0 21 (.call .view 798 [(.t 20),(.c (.string ⟨#[34]⟩))]),
 o0 16 (.mv (.t 21))]) (.cond (.t 16) (.seq (.region [4] [o0 22 (.mv (.t 0)),
 o0 23 (.mv (.t 0)),
 o0 24 (.nilCheck (.t 23)),
 o0 25 (.fieldA 0 (.t 24)),
 o0 26 (.load none (.t 25)),
 o0 27 (.sliceS (.t 26) (some (.c (.int .i64 1))) none),
 o0 28 (.nilCheck (.t 22)),
 o0 29 (.fieldA 0 (.t 28)),
 o2 (.store 1 (.t 29) (.t 27))]) (.seq (.region [2, 3] [o0 30 (.call .share 670 [.t 4]),
 o0 31 (.call .share 669 [.t 4]),
 o0 32 (.bin .leq (.t 31) (.c (.int .i64 4096))),
 o0 2 (.mv (.t 30)),
 o0 3 (.mv (.t 32))]) .ret)) (.seq (.seq (.region [0, 4, 33] [o0 34 (.mv (.t 0)),
 o0 35 (.nilCheck (.t 34)),
 o0 36 (.fieldA 0 (.t 35)),
 o0 37 (.load none (.t 36)),
 o0 38 (.call .view 798 [(.t 37),(.c (.string ⟨#[92, 92]⟩))]),
 o0 33 (.mv (.t 38))]) (.cond (.t 33) .skip (.region [0, 4, 33] [o0 39 (.mv (.t 0)),
 o0 40 (.nilCheck (.t 39)),
 o0 41 (.fieldA 0 (.t 40)),
 o0 42 (.load none (.t 41)),
 o0 43 (.call .view 798 [(.t 42),(.c (.string ⟨#[92, 34]⟩))]),
 o0 33 (.mv (.t 43))]))) (.cond (.t 33) (.region [0, 4] [o0 44 (.mv (.t 0)),
 o0 45 (.nilCheck (.t 44)),
 o0 46 (.fieldA 0 (.t 45)),
 o0 47 (.load none (.t 46)),
 o0 48 (.idxS (.t 47) (.c (.int .i64 1))),
 o0 49 (.call .share 672 [(.t 4),(.t 48)])]) (.seq (.region [0, 4, 50] [o0 51 (.mv (.t 0)),
 o0 52 (.nilCheck (.t 51)),
 o0 53 (.fieldA 0 (.t 52)),
 o0 54 (.load none (.t 53)),
 o0 55 (.call .view 798 [(.t 54),(.c (.string ⟨#[92, 110]⟩))]),
 o0 50 (.mv (.t 55))]) (.cond (.t 50) (.region [0, 4] [o0 56 (.call .share 672 [(.t 4),(.c (.int .u8 10))])]) (.seq (.region [2, 3] [o0 2 (.mv (.c (.string .empty))),
 o0 3 (.mv (.c (.bool false)))]) .ret)))))))) (.region [0, 4] [o0 57 (.mv (.t 0)),
 o0 58 (.mv (.t 0)),
 o0 59 (.nilCheck (.t 58)),
 o0 60 (.fieldA 0 (.t 59)),
 o0 61 (.load none (.t 60)),
 o0 62 (.sliceS (.t 61) (some (.c (.int .i64 2))) none),
 o0 63 (.nilCheck (.t 57)),
 o0 64 (.fieldA 0 (.t 63)),
 o2 (.store 1 (.t 64) (.t 62))]))))
def x192 : XFun :=
 ⟨[.tmp 2,.tmp 3],(.seq (.region [0] [o0 2 (.mv (.c (.string .empty))),
 o0 3 (.mv (.c (.bool false)))]) (.seq (.region [0, 4] [o0 4 (.allocB 0 [(.pointer none),(.slice none 0 0)])]) (.seq (.region [0, 4] [o0 5 (.mv (.t 0)),
 o0 6 (.mv (.t 0)),
 o0 7 (.nilCheck (.t 6)),
 o0 8 (.fieldA 0 (.t 7)),
 o0 9 (.load none (.t 8)),
 o0 10 (.sliceS (.t 9) (some (.c (.int .i64 1))) none),
 o0 11 (.nilCheck (.t 5)),
 o0 12 (.fieldA 0 (.t 11)),
 o2 (.store 1 (.t 12) (.t 10))]) (.block 0 (.loop [0, 4] x192L1)))))⟩
@[simp] def sameC51f  : XFun :=
 ⟨[.tmp 2],(.seq (.region [0] [o0 2 (.mv (.c (.bool false)))]) (.seq (.region [2] [o0 3 (.mv (.t 0)),o0 4 (.bin .geq (.t 3) (.c (.int .u8 48))),o0 5 (.mv (.t 4)),o1 6 5 true (.mv (.t 0)),o1 7 5 true (.bin .leq (.t 6) (.c (.int .u8 57))),o0 8 (.pick (.t 5) (.t 7) (.c (.bool false))),o0 2 (.mv (.t 8))]) .ret))⟩
def x569 : XFun :=
 sameC51f 
def x570 : XFun :=
 ⟨[.tmp 2],(.seq (.region [0] [o0 2 (.mv (.c (.bool false)))]) (.seq (.region [2] [o0 3 (.mv (.t 0)),
 o0 4 (.bin .or (.t 3) (.c (.int .u8 32))),
 o0 5 (.bin .geq (.t 4) (.c (.int .u8 97))),
 o0 6 (.mv (.t 5)),
 o1 7 6 true (.mv (.t 0)),
 o1 8 6 true (.bin .or (.t 7) (.c (.int .u8 32))),
 o1 9 6 true (.bin .leq (.t 8) (.c (.int .u8 122))),
 o0 10 (.pick (.t 6) (.t 9) (.c (.bool false))),
 o0 11 (.mv (.t 10)),
 o1 12 11 false (.mv (.t 0)),
 o1 13 11 false (.bin .eql (.t 12) (.c (.int .u8 95))),
 o0 14 (.pick (.t 11) (.c (.bool true)) (.t 13)),
 o0 2 (.mv (.t 14))]) .ret))⟩
def x195 : XFun :=
 ⟨[.tmp 2],(.seq (.region [0] [o0 2 (.mv (.c (.bool false)))]) (.seq (.region [2] [o0 3 (.mv (.t 0)),
 o0 4 (.call .view 569 [.t 3]),
 o0 5 (.mv (.t 4)),
 o1 6 5 false (.mv (.t 0)),
 o1 7 5 false (.call .view 570 [.t 6]),
 o0 8 (.pick (.t 5) (.c (.bool true)) (.t 7)),
 o0 2 (.mv (.t 8))]) .ret))⟩
def x793 : XFun :=
 ⟨[.tmp 2],(.seq (.region [0] [o0 2 (.mv (.c (.string .empty)))]) (.seq (.region [2] [o0 3 (.mv (.t 0)),
 o0 4 (.call .view 721 [.t 3]),
 o0 2 (.mv (.t 4))]) .ret))⟩
def x571 : XFun :=
 ⟨[.cell 0 (some 21)],(.seq (.region [0] [o0 0 (.alloc [(.string .empty),(.string .empty),(.string .empty),(.string .empty),(.string .empty),(.string .empty),(.string .empty),(.string .empty),(.string .empty),(.string .empty),(.string .empty),(.string .empty),(.string .empty),(.string .empty),(.string .empty),(.string .empty),(.string .empty),(.string .empty),(.string .empty),(.string .empty),(.string .empty)])]) (.seq (.region [0] [o0 1 (.build [(.string .empty),(.string .empty),(.string .empty),(.string .empty),(.string .empty),(.string .empty),(.string .empty),(.string .empty),(.string .empty),(.string .empty),(.string .empty),(.string .empty),(.string .empty),(.string .empty),(.string .empty),(.string .empty),(.string .empty),(.string .empty),(.string .empty),(.string .empty),(.string .empty)] [(0, 1,(.c (.string ⟨#[61, 61]⟩))),(1, 1,(.c (.string ⟨#[33, 61]⟩))),(2, 1,(.c (.string ⟨#[60, 61]⟩))),(3, 1,(.c (.string ⟨#[40]⟩))),(4, 1,(.c (.string ⟨#[41]⟩))),(5, 1,(.c (.string ⟨#[123]⟩))),(6, 1,(.c (.string ⟨#[125]⟩))),(7, 1,(.c (.string ⟨#[91]⟩))),(8, 1,(.c (.string ⟨#[93]⟩))),(9, 1,(.c (.string ⟨#[44]⟩))),(10, 1,(.c (.string ⟨#[59]⟩))),(11, 1,(.c (.string ⟨#[58]⟩))),(12, 1,(.c (.string ⟨#[61]⟩))),(13, 1,(.c (.string ⟨#[60]⟩))),(14, 1,(.c (.string ⟨#[43]⟩))),(15, 1,(.c (.string ⟨#[45]⟩))),(16, 1,(.c (.string ⟨#[42]⟩))),(17, 1,(.c (.string ⟨#[47]⟩))),(18, 1,(.c (.string ⟨#[37]⟩))),(19, 1,(.c (.string ⟨#[35]⟩))),(20, 1,(.c (.string ⟨#[36]⟩)))]),
 o2 (.store 21 (.t 0) (.t 1))]) .ret))⟩
def x796 : XFun :=
 ⟨[.tmp 4,.tmp 5],(.seq (.region [0, 1] [o0 4 (.mv (.c (.string .empty))),
 o0 5 (.mv (.c (.bool false)))]) (.seq (.region [4, 5] [o0 6 (.mv (.t 0)),
 o0 7 (.mv (.t 1)),
 o0 8 (.call .view 723 [(.t 6),(.t 7)]),
 o0 9 (.extract (.t 8) 0),
 o0 10 (.extract (.t 8) 1),
 o0 4 (.mv (.t 9)),
 o0 5 (.mv (.t 10))]) .ret))⟩
def x725 : XFun :=
 ⟨[.tmp 4],(.seq (.region [0, 1] [o0 4 (.mv (.c (.bool false)))]) (.seq (.region [4] [o0 5 (.mv (.t 0)),
 o0 6 (.lenS (.t 5)),
 o0 7 (.mv (.t 1)),
 o0 8 (.lenS (.t 7)),
 o0 9 (.bin .geq (.t 6) (.t 8)),
 o0 10 (.mv (.t 9)),
 o1 11 10 true (.mv (.t 0)),
 o1 12 10 true (.mv (.t 1)),
 o1 13 10 true (.lenS (.t 12)),
 o1 14 10 true (.sliceS (.t 11) none (some (.t 13))),
 o1 15 10 true (.mv (.t 1)),
 o1 16 10 true (.bin .eql (.t 14) (.t 15)),
 o0 17 (.pick (.t 10) (.t 16) (.c (.bool false))),
 o0 4 (.mv (.t 17))]) .ret))⟩
def x193 : XFun :=
 ⟨[.tmp 2],(.seq (.region [0] [o0 2 (.mv (.c (.bool false)))]) (.seq (.region [2] [o0 3 (.mv (.t 0)),
 o0 4 (.bin .neq (.t 3) (.c (.int .u8 34))),
 o0 5 (.mv (.t 4)),
 o1 6 5 true (.mv (.t 0)),
 o1 7 5 true (.bin .neq (.t 6) (.c (.int .u8 92))),
 o0 8 (.pick (.t 5) (.t 7) (.c (.bool false))),
 o0 9 (.mv (.t 8)),
 o1 10 9 true (.mv (.t 0)),
 o1 11 9 true (.bin .neq (.t 10) (.c (.int .u8 10))),
 o0 12 (.pick (.t 9) (.t 11) (.c (.bool false))),
 o0 2 (.mv (.t 12))]) .ret))⟩
def x672 : XFun :=
 ⟨[.tmp 4],(.seq (.region [0, 1] [o0 4 (.mv (.c .nilIface))]) (.seq (.region [0, 1] [o0 5 (.mv (.t 0)),
 o0 6 (.call .share 674 [.t 5])]) (.seq (.region [] [o0 7 (.mv (.t 0)),
 o0 8 (.mv (.t 0)),
 o0 9 (.nilCheck (.t 8)),
 o0 10 (.fieldA 1 (.t 9)),
 o0 11 (.load none (.t 10)),
 o0 12 (.mv (.t 1)),
 o0 13 (.buildSlice 1 [(.int .u8 0)] 1 [(0, 1,(.t 12))]),
 o0 14 (.appendS (.t 11) (.t 13)),
 o0 15 (.nilCheck (.t 7)),
 o0 16 (.fieldA 1 (.t 15)),
 o2 (.store 1 (.t 16) (.t 14))]) (.seq (.region [4] [o0 4 (.mv (.c .nilIface))]) .ret))))⟩
def x723 : XFun :=
 ⟨[.tmp 4,.tmp 5],(.seq (.region [0, 1] [o0 4 (.mv (.c (.string .empty))),
 o0 5 (.mv (.c (.bool false)))]) (.seq (.seq (.region [0, 1, 9] [o0 6 (.mv (.t 0)),
 o0 7 (.mv (.t 1)),
 o0 8 (.call .view 725 [(.t 6),(.t 7)]),
 o0 9 (.un .not (.t 8))]) (.cond (.t 9) (.seq (.region [4, 5] [o0 10 (.mv (.t 0)),
 o0 4 (.mv (.t 10)),
 o0 5 (.mv (.c (.bool false)))]) .ret) .skip)) (.seq (.region [4, 5] [o0 11 (.mv (.t 0)),
 o0 12 (.mv (.t 1)),
 o0 13 (.lenS (.t 12)),
 o0 14 (.sliceS (.t 11) (some (.t 13)) none),
 o0 4 (.mv (.t 14)),
 o0 5 (.mv (.c (.bool true)))]) .ret)))⟩
def x512L1 : XCode :=
 (.seq (.seq (.region [0, 5, 6, 7, 63] [o0 54 (.mv (.t 7)),
 o0 55 (.mv (.t 0)),
 o0 56 (.lenS (.t 55)),
 o0 57 (.bin .lss (.t 54) (.t 56)),
 o0 58 (.mv (.t 57)),
 o1 59 58 true (.mv (.t 0)),
 o1 60 58 true (.mv (.t 7)),
 o1 61 58 true (.idxS (.t 59) (.t 60)),
 o1 62 58 true (.bin .neq (.t 61) (.c (.int .u8 10))),
 o0 63 (.pick (.t 58) (.t 62) (.c (.bool false)))]) (.cond (.t 63) .skip (.exit 2))) (.block 3 (.region [0, 5, 6, 7] [o0 64 (.mv (.t 7)),
 o0 65 (.bin .add (.t 64) (.c (.int .i64 1))),
 o0 7 (.mv (.t 65))])))
def x512L2 : XCode :=
 (.seq (.seq (.region [0, 5, 6, 7, 18] [o0 15 (.mv (.t 7)),
 o0 16 (.mv (.t 0)),
 o0 17 (.lenS (.t 16)),
 o0 18 (.bin .lss (.t 15) (.t 17))]) (.cond (.t 18) .skip (.exit 0))) (.block 1 (.seq (.region [0, 5, 6, 7, 8] [o0 19 (.mv (.t 0)),
 o0 20 (.mv (.t 7)),
 o0 21 (.idxS (.t 19) (.t 20)),
 o0 8 (.mv (.t 21))]) (.seq (.seq (.region [0, 5, 6, 7, 8, 23] [o0 22 (.mv (.t 8)),
 o0 23 (.bin .eql (.t 22) (.c (.int .u8 10)))]) (.cond (.t 23) (.region [0, 5, 6, 7, 8] [o0 24 (.mv (.t 6)),
 o0 25 (.bin .add (.t 24) (.c (.int .i64 1))),
 o0 6 (.mv (.t 25))]) .skip)) (.seq (.seq (.region [0, 5, 6, 7, 8, 35] [o0 26 (.mv (.t 8)),
 o0 27 (.bin .eql (.t 26) (.c (.int .u8 10))),
 o0 28 (.mv (.t 27)),
 o1 29 28 false (.mv (.t 8)),
 o1 30 28 false (.bin .eql (.t 29) (.c (.int .u8 32))),
 o0 31 (.pick (.t 28) (.c (.bool true)) (.t 30)),
 o0 32 (.mv (.t 31)),
 o1 33 32 false (.mv (.t 8)),
 o1 34 32 false (.bin .eql (.t 33) (.c (.int .u8 9))),
 o0 35 (.pick (.t 32) (.c (.bool true)) (.t 34))]) (.cond (.t 35) (.seq (.region [0, 5, 6, 7] [o0 36 (.mv (.t 7)),
 o0 37 (.bin .add (.t 36) (.c (.int .i64 1))),
 o0 7 (.mv (.t 37))]) (.exit 1)) .skip)) (.seq (.seq (.region [0, 5, 6, 7, 53] [o0 38 (.mv (.t 8)),
 o0 39 (.bin .eql (.t 38) (.c (.int .u8 47))),
 o0 40 (.mv (.t 39)),
 o1 41 40 true (.mv (.t 7)),
 o1 42 40 true (.bin .add (.t 41) (.c (.int .i64 1))),
 o1 43 40 true (.mv (.t 0)),
 o1 44 40 true (.lenS (.t 43)),
 o1 45 40 true (.bin .lss (.t 42) (.t 44)),
 o0 46 (.pick (.t 40) (.t 45) (.c (.bool false))),
 o0 47 (.mv (.t 46)),
 o1 48 47 true (.mv (.t 0)),
 o1 49 47 true (.mv (.t 7)),
 o1 50 47 true (.bin .add (.t 49) (.c (.int .i64 1))),
 o1 51 47 true (.idxS (.t 48) (.t 50)),
 o1 52 47 true (.bin .eql (.t 51) (.c (.int .u8 47))),
 o0 53 (.pick (.t 47) (.t 52) (.c (.bool false)))]) (.cond (.t 53) (.seq (.block 2 (.loop [0, 5, 6, 7] x512L1)) (.exit 1)) .skip)) (.seq (.region [0, 5, 6, 9, 10, 11] [o0 67 (.mv (.t 0)),
 o0 68 (.mv (.t 7)),
 o0 69 (.call .view 519 [(.t 67),(.t 68)]),
 o0 66 (.mv (.t 69)),
 o0 70 (.extract (.t 66) 0),
 o0 71 (.extract (.t 66) 1),
 o0 72 (.extract (.t 66) 2),
 o0 9 (.alloc [(.int .u8 0),(.string .empty),(.int .i64 0),(.int .i64 0)]),
 o2 (.store 4 (.t 9) (.t 70)),
 o0 10 (.mv (.t 71)),
 o0 11 (.mv (.t 72))]) (.seq (.seq (.region [0, 5, 6, 9, 10, 74] [o0 73 (.mv (.t 11)),
 o0 74 (.un .not (.t 73))]) (.cond (.t 74) (.seq (.region [2, 3, 4] [o0 75 (.mv (.t 6)),
 o0 2 (.mv (.c (.slice none 0 0))),
 o0 3 (.mv (.t 75)),
 o0 4 (.mv (.c (.int .i64 4)))]) .ret) .skip)) (.seq (.region [0, 5, 6, 9, 10] [o0 76 (.mv (.t 6)),
 o0 77 (.fieldA 3 (.t 9)),
 o2 (.store 1 (.t 77) (.t 76))]) (.seq (.region [0, 5, 6, 10] [o0 78 (.mv (.t 5)),
 o0 79 (.load (some 4) (.t 9)),
 o0 80 (.buildSlice 4 [(.int .u8 0),(.string .empty),(.int .i64 0),(.int .i64 0)] 1 [(0, 4,(.t 79))]),
 o0 81 (.append 4 40 (.t 78) (.t 80)),
 o0 5 (.mv (.t 81))]) (.region [0, 5, 6, 7] [o0 82 (.mv (.t 10)),
 o0 7 (.mv (.t 82))])))))))))))
def x512 : XFun :=
 ⟨[.tmp 2,.tmp 3,.tmp 4],(.seq (.region [0] [o0 2 (.mv (.c (.slice none 0 0))),
 o0 3 (.mv (.c (.int .i64 0))),
 o0 4 (.mv (.c (.int .i64 0)))]) (.seq (.seq (.region [0, 14] [o0 12 (.mv (.t 0)),
 o0 13 (.lenS (.t 12)),
 o0 14 (.bin .gtr (.t 13) (.c (.int .i64 65536)))]) (.cond (.t 14) (.seq (.region [2, 3, 4] [o0 2 (.mv (.c (.slice none 0 0))),
 o0 3 (.mv (.c (.int .i64 0))),
 o0 4 (.mv (.c (.int .i64 3)))]) .ret) .skip)) (.seq (.region [0, 5] [o0 5 (.mv (.c (.slice none 0 0)))]) (.seq (.region [0, 5, 6] [o0 6 (.mv (.c (.int .i64 0)))]) (.seq (.seq (.region [0, 5, 6, 7] [o0 7 (.mv (.c (.int .i64 0)))]) (.block 0 (.loop [0, 5, 6, 7] x512L2))) (.seq (.region [2, 3, 4] [o0 83 (.mv (.t 5)),
 o0 2 (.mv (.t 83)),
 o0 3 (.mv (.c (.int .i64 0))),
 o0 4 (.mv (.c (.int .i64 0)))]) .ret))))))⟩
def x519 : XFun :=
 ⟨[.cell 4 (some 4),.tmp 5,.tmp 6],(.seq (.region [0, 1, 4] [o0 4 (.alloc [(.int .u8 0),(.string .empty),(.int .i64 0),(.int .i64 0)]),
 o0 5 (.mv (.c (.int .i64 0))),
 o0 6 (.mv (.c (.bool false)))]) (.seq (.block 0 (.seq (.region [0, 1, 4, 15] [o0 16 (.mv (.t 0)),
 o0 17 (.mv (.t 1)),
 o0 18 (.idxS (.t 16) (.t 17)),
 o0 19 (.bin .eql (.t 18) (.c (.int .u8 34))),
 o0 15 (.mv (.t 19))]) (.cond (.t 15) (.seq (.region [4, 7, 8, 9] [o0 21 (.mv (.t 0)),
 o0 22 (.mv (.t 1)),
 o0 23 (.bin .add (.t 22) (.c (.int .i64 1))),
 o0 24 (.call .view 518 [(.t 21),(.t 23)]),
 o0 20 (.mv (.t 24)),
 o0 25 (.extract (.t 20) 0),
 o0 26 (.extract (.t 20) 1),
 o0 27 (.extract (.t 20) 2),
 o0 7 (.mv (.t 25)),
 o0 8 (.mv (.t 26)),
 o0 9 (.mv (.t 27))]) (.seq (.region [4, 5, 6] [o0 28 (.mv (.t 7)),
 o0 29 (.build [(.int .u8 0),(.string .empty),(.int .i64 0),(.int .i64 0)] [(0, 1,(.c (.int .u8 3))),(1, 1,(.t 28))]),
 o0 30 (.mv (.t 8)),
 o0 31 (.mv (.t 9)),
 o2 (.store 4 (.t 4) (.t 29)),
 o0 5 (.mv (.t 30)),
 o0 6 (.mv (.t 31))]) .ret)) (.seq (.region [0, 1, 4, 32] [o0 33 (.mv (.t 0)),
 o0 34 (.mv (.t 1)),
 o0 35 (.idxS (.t 33) (.t 34)),
 o0 36 (.call .view 513 [.t 35]),
 o0 32 (.mv (.t 36))]) (.cond (.t 32) (.seq (.region [0, 1, 4, 10] [o0 37 (.mv (.t 0)),
 o0 38 (.mv (.t 1)),
 o0 39 (.call .view 516 [(.t 37),(.t 38)]),
 o0 10 (.mv (.t 39))]) (.seq (.region [4, 10, 11, 12] [o0 41 (.mv (.t 0)),
 o0 42 (.mv (.t 1)),
 o0 43 (.mv (.t 10)),
 o0 44 (.sliceS (.t 41) (some (.t 42)) (some (.t 43))),
 o0 45 (.call .view 515 [.t 44]),
 o0 40 (.mv (.t 45)),
 o0 46 (.extract (.t 40) 0),
 o0 47 (.extract (.t 40) 1),
 o0 11 (.mv (.t 46)),
 o0 12 (.mv (.t 47))]) (.seq (.region [4, 5, 6] [o0 48 (.mv (.t 11)),
 o0 49 (.build [(.int .u8 0),(.string .empty),(.int .i64 0),(.int .i64 0)] [(0, 1,(.c (.int .u8 2))),(2, 1,(.t 48))]),
 o0 50 (.mv (.t 10)),
 o0 51 (.mv (.t 12)),
 o2 (.store 4 (.t 4) (.t 49)),
 o0 5 (.mv (.t 50)),
 o0 6 (.mv (.t 51))]) .ret))) (.seq (.region [0, 1, 4, 52] [o0 53 (.mv (.t 0)),
 o0 54 (.mv (.t 1)),
 o0 55 (.idxS (.t 53) (.t 54)),
 o0 56 (.call .view 514 [.t 55]),
 o0 52 (.mv (.t 56))]) (.cond (.t 52) (.seq (.region [0, 1, 4, 13] [o0 57 (.mv (.t 0)),
 o0 58 (.mv (.t 1)),
 o0 59 (.call .view 516 [(.t 57),(.t 58)]),
 o0 13 (.mv (.t 59))]) (.seq (.region [4, 5, 6] [o0 60 (.mv (.t 0)),
 o0 61 (.mv (.t 1)),
 o0 62 (.mv (.t 13)),
 o0 63 (.sliceS (.t 60) (some (.t 61)) (some (.t 62))),
 o0 64 (.build [(.int .u8 0),(.string .empty),(.int .i64 0),(.int .i64 0)] [(0, 1,(.c (.int .u8 1))),(1, 1,(.t 63))]),
 o0 65 (.mv (.t 13)),
 o0 66 (.mv (.t 13)),
 o0 67 (.mv (.t 1)),
 o0 68 (.bin .sub (.t 66) (.t 67)),
 o0 69 (.bin .leq (.t 68) (.c (.int .i64 4096))),
 o2 (.store 4 (.t 4) (.t 64)),
 o0 5 (.mv (.t 65)),
 o0 6 (.mv (.t 69))]) .ret)) .skip))))))) (.seq (.region [1, 4, 14] [o0 70 (.mv (.t 0)),
 o0 71 (.mv (.t 1)),
 o0 72 (.call .view 517 [(.t 70),(.t 71)]),
 o0 14 (.mv (.t 72))]) (.seq (.region [4, 5, 6] [o0 73 (.mv (.t 14)),
 o0 74 (.build [(.int .u8 0),(.string .empty),(.int .i64 0),(.int .i64 0)] [(0, 1,(.c (.int .u8 4))),(1, 1,(.t 73))]),
 o0 75 (.mv (.t 1)),
 o0 76 (.mv (.t 14)),
 o0 77 (.lenS (.t 76)),
 o0 78 (.bin .add (.t 75) (.t 77)),
 o0 79 (.mv (.t 14)),
 o0 80 (.bin .neq (.t 79) (.c (.string .empty))),
 o2 (.store 4 (.t 4) (.t 74)),
 o0 5 (.mv (.t 78)),
 o0 6 (.mv (.t 80))]) .ret))))⟩
def x518L1 : XCode :=
 (.seq (.seq (.region [0, 1, 7, 18] [o0 9 (.mv (.t 1)),
 o0 10 (.mv (.t 0)),
 o0 11 (.lenS (.t 10)),
 o0 12 (.bin .lss (.t 9) (.t 11)),
 o0 13 (.mv (.t 12)),
 o1 14 13 true (.mv (.t 0)),
 o1 15 13 true (.mv (.t 1)),
 o1 16 13 true (.idxS (.t 14) (.t 15)),
 o1 17 13 true (.bin .neq (.t 16) (.c (.int .u8 10))),
 o0 18 (.pick (.t 13) (.t 17) (.c (.bool false)))]) (.cond (.t 18) .skip (.exit 0))) (.block 1 (.seq (.region [0, 1, 7, 8] [o0 19 (.mv (.t 0)),
 o0 20 (.mv (.t 1)),
 o0 21 (.idxS (.t 19) (.t 20)),
 o0 8 (.mv (.t 21))]) (.seq (.region [0, 1, 7, 8] [o0 22 (.mv (.t 1)),
 o0 23 (.bin .add (.t 22) (.c (.int .i64 1))),
 o0 1 (.mv (.t 23))]) (.seq (.seq (.region [0, 1, 7, 8, 25] [o0 24 (.mv (.t 8)),
 o0 25 (.bin .eql (.t 24) (.c (.int .u8 34)))]) (.cond (.t 25) (.seq (.region [4, 5, 6] [o0 26 (.mv (.t 7)),
 o0 27 (.strOf (.t 26)),
 o0 28 (.mv (.t 1)),
 o0 29 (.mv (.t 7)),
 o0 30 (.len (.t 29)),
 o0 31 (.bin .leq (.t 30) (.c (.int .i64 4096))),
 o0 4 (.mv (.t 27)),
 o0 5 (.mv (.t 28)),
 o0 6 (.mv (.t 31))]) .ret) .skip)) (.seq (.seq (.region [0, 1, 7, 8, 33] [o0 32 (.mv (.t 8)),
 o0 33 (.bin .eql (.t 32) (.c (.int .u8 92)))]) (.cond (.t 33) (.seq (.seq (.region [0, 1, 7, 37] [o0 34 (.mv (.t 1)),
 o0 35 (.mv (.t 0)),
 o0 36 (.lenS (.t 35)),
 o0 37 (.bin .eql (.t 34) (.t 36))]) (.cond (.t 37) (.seq (.region [4, 5, 6] [o0 38 (.mv (.t 1)),
 o0 4 (.mv (.c (.string .empty))),
 o0 5 (.mv (.t 38)),
 o0 6 (.mv (.c (.bool false)))]) .ret) .skip)) (.seq (.seq (.region [0, 1, 7, 41] [o0 39 (.mv (.t 0)),
 o0 40 (.mv (.t 1)),
 o0 41 (.idxS (.t 39) (.t 40))]) (.block 2 (.seq (.seq (.region [0, 1, 7, 41, 43] [o0 44 (.bin .eql (.t 41) (.c (.int .u8 34))),
 o0 43 (.mv (.t 44))]) (.cond (.t 43) .skip (.region [0, 1, 7, 41, 43] [o0 45 (.bin .eql (.t 41) (.c (.int .u8 92))),
 o0 43 (.mv (.t 45))]))) (.cond (.t 43) (.region [0, 1, 7, 8] [o0 46 (.mv (.t 0)),
 o0 47 (.mv (.t 1)),
 o0 48 (.idxS (.t 46) (.t 47)),
 o0 8 (.mv (.t 48))]) (.seq (.region [0, 1, 7, 49] [o0 50 (.bin .eql (.t 41) (.c (.int .u8 110))),
 o0 49 (.mv (.t 50))]) (.cond (.t 49) (.region [0, 1, 7, 8] [o0 8 (.mv (.c (.int .u8 10)))]) (.seq (.region [4, 5, 6] [o0 42 (.mv (.t 1)),
 o0 4 (.mv (.c (.string .empty))),
 o0 5 (.mv (.t 42)),
 o0 6 (.mv (.c (.bool false)))]) .ret))))))) (.region [0, 1, 7, 8] [o0 51 (.mv (.t 1)),
 o0 52 (.bin .add (.t 51) (.c (.int .i64 1))),
 o0 1 (.mv (.t 52))]))) .skip)) (.region [0, 1, 7] [o0 53 (.mv (.t 7)),
 o0 54 (.mv (.t 8)),
 o0 55 (.buildSlice 1 [(.int .u8 0)] 1 [(0, 1,(.t 54))]),
 o0 56 (.append 1 1 (.t 53) (.t 55)),
 o0 7 (.mv (.t 56))])))))))
def x518 : XFun :=
 ⟨[.tmp 4,.tmp 5,.tmp 6],(.seq (.region [0, 1] [o0 4 (.mv (.c (.string .empty))),
 o0 5 (.mv (.c (.int .i64 0))),
 o0 6 (.mv (.c (.bool false)))]) (.seq (.region [0, 1, 7] [o0 7 (.mv (.c (.slice none 0 0)))]) (.seq (.block 0 (.loop [0, 1, 7] x518L1)) (.seq (.region [4, 5, 6] [o0 57 (.mv (.t 1)),
 o0 4 (.mv (.c (.string .empty))),
 o0 5 (.mv (.t 57)),
 o0 6 (.mv (.c (.bool false)))]) .ret))))⟩
def x513 : XFun :=
 sameC51f 
def x516L1 : XCode :=
 (.seq (.seq (.region [0, 1, 20] [o0 5 (.mv (.t 1)),
 o0 6 (.mv (.t 0)),
 o0 7 (.lenS (.t 6)),
 o0 8 (.bin .lss (.t 5) (.t 7)),
 o0 9 (.mv (.t 8)),
 o1 10 9 true (.mv (.t 0)),
 o1 11 9 true (.mv (.t 1)),
 o1 12 9 true (.idxS (.t 10) (.t 11)),
 o1 13 9 true (.call .view 514 [.t 12]),
 o1 14 9 true (.mv (.t 13)),
 o1 15 14 false (.mv (.t 0)),
 o1 16 14 false (.mv (.t 1)),
 o1 17 14 false (.idxS (.t 15) (.t 16)),
 o1 18 14 false (.call .view 513 [.t 17]),
 o1 19 9 true (.pick (.t 14) (.c (.bool true)) (.t 18)),
 o0 20 (.pick (.t 9) (.t 19) (.c (.bool false)))]) (.cond (.t 20) .skip (.exit 0))) (.block 1 (.region [0, 1] [o0 21 (.mv (.t 1)),
 o0 22 (.bin .add (.t 21) (.c (.int .i64 1))),
 o0 1 (.mv (.t 22))])))
def x516 : XFun :=
 ⟨[.tmp 4],(.seq (.region [0, 1] [o0 4 (.mv (.c (.int .i64 0)))]) (.seq (.block 0 (.loop [0, 1] x516L1)) (.seq (.region [4] [o0 23 (.mv (.t 1)),
 o0 4 (.mv (.t 23))]) .ret)))⟩
def x515L1 : XCode :=
 (.seq (.seq (.region [0, 4, 5, 22] [o0 19 (.mv (.t 5)),
 o0 20 (.mv (.t 0)),
 o0 21 (.lenS (.t 20)),
 o0 22 (.bin .lss (.t 19) (.t 21))]) (.cond (.t 22) .skip (.exit 0))) (.seq (.block 1 (.seq (.seq (.region [0, 4, 5, 29] [o0 25 (.mv (.t 0)),
 o0 26 (.mv (.t 5)),
 o0 27 (.idxS (.t 25) (.t 26)),
 o0 28 (.call .view 513 [.t 27]),
 o0 29 (.un .not (.t 28))]) (.cond (.t 29) (.seq (.region [2, 3] [o0 2 (.mv (.c (.int .i64 0))),
 o0 3 (.mv (.c (.bool false)))]) .ret) .skip)) (.region [0, 4, 5] [o0 30 (.mv (.t 4)),
 o0 31 (.bin .mul (.c (.int .u64 10)) (.t 30)),
 o0 32 (.mv (.t 0)),
 o0 33 (.mv (.t 5)),
 o0 34 (.idxS (.t 32) (.t 33)),
 o0 35 (.bin .sub (.t 34) (.c (.int .u8 48))),
 o0 36 (.conv .u64 (.t 35)),
 o0 37 (.bin .add (.t 31) (.t 36)),
 o0 4 (.mv (.t 37))]))) (.region [0, 4, 5] [o0 23 (.mv (.t 5)),
 o0 24 (.bin .add (.t 23) (.c (.int .i64 1))),
 o0 5 (.mv (.t 24))])))
def x515 : XFun :=
 ⟨[.tmp 2,.tmp 3],(.seq (.region [0] [o0 2 (.mv (.c (.int .i64 0))),
 o0 3 (.mv (.c (.bool false)))]) (.seq (.seq (.region [0, 18] [o0 6 (.mv (.t 0)),
 o0 7 (.lenS (.t 6)),
 o0 8 (.bin .gtr (.t 7) (.c (.int .i64 19))),
 o0 9 (.mv (.t 8)),
 o1 10 9 false (.mv (.t 0)),
 o1 11 9 false (.idxS (.t 10) (.c (.int .i64 0))),
 o1 12 9 false (.bin .eql (.t 11) (.c (.int .u8 48))),
 o1 13 9 false (.mv (.t 12)),
 o1 14 13 true (.mv (.t 0)),
 o1 15 13 true (.lenS (.t 14)),
 o1 16 13 true (.bin .gtr (.t 15) (.c (.int .i64 1))),
 o1 17 9 false (.pick (.t 13) (.t 16) (.c (.bool false))),
 o0 18 (.pick (.t 9) (.c (.bool true)) (.t 17))]) (.cond (.t 18) (.seq (.region [2, 3] [o0 2 (.mv (.c (.int .i64 0))),
 o0 3 (.mv (.c (.bool false)))]) .ret) .skip)) (.seq (.region [0, 4] [o0 4 (.mv (.c (.int .u64 0)))]) (.seq (.seq (.region [0, 4, 5] [o0 5 (.mv (.c (.int .i64 0)))]) (.block 0 (.loop [0, 4, 5] x515L1))) (.seq (.region [2, 3] [o0 38 (.mv (.t 4)),
 o0 39 (.conv .i64 (.t 38)),
 o0 40 (.mv (.t 4)),
 o0 41 (.bin .leq (.t 40) (.c (.int .u64 9223372036854775807))),
 o0 2 (.mv (.t 39)),
 o0 3 (.mv (.t 41))]) .ret)))))⟩
def x514 : XFun :=
 ⟨[.tmp 2],(.seq (.region [0] [o0 2 (.mv (.c (.bool false)))]) (.seq (.region [2] [o0 3 (.mv (.t 0)),
 o0 4 (.bin .geq (.t 3) (.c (.int .u8 97))),
 o0 5 (.mv (.t 4)),
 o1 6 5 true (.mv (.t 0)),
 o1 7 5 true (.bin .leq (.t 6) (.c (.int .u8 122))),
 o0 8 (.pick (.t 5) (.t 7) (.c (.bool false))),
 o0 9 (.mv (.t 8)),
 o1 10 9 false (.mv (.t 0)),
 o1 11 9 false (.bin .geq (.t 10) (.c (.int .u8 65))),
 o1 12 9 false (.mv (.t 11)),
 o1 13 12 true (.mv (.t 0)),
 o1 14 12 true (.bin .leq (.t 13) (.c (.int .u8 90))),
 o1 15 9 false (.pick (.t 12) (.t 14) (.c (.bool false))),
 o0 16 (.pick (.t 9) (.c (.bool true)) (.t 15)),
 o0 17 (.mv (.t 16)),
 o1 18 17 false (.mv (.t 0)),
 o1 19 17 false (.bin .eql (.t 18) (.c (.int .u8 95))),
 o0 20 (.pick (.t 17) (.c (.bool true)) (.t 19)),
 o0 2 (.mv (.t 20))]) .ret))⟩
def x517 : XFun :=
 ⟨[.tmp 4],(.seq (.region [0, 1] [o0 4 (.mv (.c (.string .empty)))]) (.seq (.seq (.region [0, 1, 34] [o0 5 (.mv (.t 1)),
 o0 6 (.bin .add (.t 5) (.c (.int .i64 1))),
 o0 7 (.mv (.t 0)),
 o0 8 (.lenS (.t 7)),
 o0 9 (.bin .lss (.t 6) (.t 8)),
 o0 10 (.mv (.t 9)),
 o1 11 10 true (.mv (.t 0)),
 o1 12 10 true (.mv (.t 1)),
 o1 13 10 true (.bin .add (.t 12) (.c (.int .i64 1))),
 o1 14 10 true (.idxS (.t 11) (.t 13)),
 o1 15 10 true (.bin .eql (.t 14) (.c (.int .u8 61))),
 o0 16 (.pick (.t 10) (.t 15) (.c (.bool false))),
 o0 17 (.mv (.t 16)),
 o1 18 17 true (.mv (.t 0)),
 o1 19 17 true (.mv (.t 1)),
 o1 20 17 true (.idxS (.t 18) (.t 19)),
 o1 21 17 true (.bin .eql (.t 20) (.c (.int .u8 61))),
 o1 22 17 true (.mv (.t 21)),
 o1 23 22 false (.mv (.t 0)),
 o1 24 22 false (.mv (.t 1)),
 o1 25 22 false (.idxS (.t 23) (.t 24)),
 o1 26 22 false (.bin .eql (.t 25) (.c (.int .u8 33))),
 o1 27 17 true (.pick (.t 22) (.c (.bool true)) (.t 26)),
 o1 28 17 true (.mv (.t 27)),
 o1 29 28 false (.mv (.t 0)),
 o1 30 28 false (.mv (.t 1)),
 o1 31 28 false (.idxS (.t 29) (.t 30)),
 o1 32 28 false (.bin .eql (.t 31) (.c (.int .u8 60))),
 o1 33 17 true (.pick (.t 28) (.c (.bool true)) (.t 32)),
 o0 34 (.pick (.t 17) (.t 33) (.c (.bool false)))]) (.cond (.t 34) (.seq (.region [4] [o0 35 (.mv (.t 0)),
 o0 36 (.mv (.t 1)),
 o0 37 (.mv (.t 1)),
 o0 38 (.bin .add (.t 37) (.c (.int .i64 2))),
 o0 39 (.sliceS (.t 35) (some (.t 36)) (some (.t 38))),
 o0 4 (.mv (.t 39))]) .ret) .skip)) (.seq (.seq (.region [0, 1, 42] [o0 40 (.mv (.t 0)),
 o0 41 (.mv (.t 1)),
 o0 42 (.idxS (.t 40) (.t 41))]) (.block 0 (.seq (.seq (.region [0, 1, 42, 43] [o0 44 (.bin .eql (.t 42) (.c (.int .u8 40))),
 o0 43 (.mv (.t 44))]) (.cond (.t 43) .skip (.seq (.region [0, 1, 42, 43] [o0 45 (.bin .eql (.t 42) (.c (.int .u8 41))),
 o0 43 (.mv (.t 45))]) (.cond (.t 43) .skip (.seq (.region [0, 1, 42, 43] [o0 46 (.bin .eql (.t 42) (.c (.int .u8 123))),
 o0 43 (.mv (.t 46))]) (.cond (.t 43) .skip (.seq (.region [0, 1, 42, 43] [o0 47 (.bin .eql (.t 42) (.c (.int .u8 125))),
 o0 43 (.mv (.t 47))]) (.cond (.t 43) .skip (.seq (.region [0, 1, 42, 43] [o0 48 (.bin .eql (.t 42) (.c (.int .u8 91))),
 o0 43 (.mv (.t 48))]) (.cond (.t 43) .skip (.seq (.region [0, 1, 42, 43] [o0 49 (.bin .eql (.t 42) (.c (.int .u8 93))),
 o0 43 (.mv (.t 49))]) (.cond (.t 43) .skip (.seq (.region [0, 1, 42, 43] [o0 50 (.bin .eql (.t 42) (.c (.int .u8 44))),
 o0 43 (.mv (.t 50))]) (.cond (.t 43) .skip (.seq (.region [0, 1, 42, 43] [o0 51 (.bin .eql (.t 42) (.c (.int .u8 59))),
 o0 43 (.mv (.t 51))]) (.cond (.t 43) .skip (.seq (.region [0, 1, 42, 43] [o0 52 (.bin .eql (.t 42) (.c (.int .u8 58))),
 o0 43 (.mv (.t 52))]) (.cond (.t 43) .skip (.seq (.region [0, 1, 42, 43] [o0 53 (.bin .eql (.t 42) (.c (.int .u8 61))),
 o0 43 (.mv (.t 53))]) (.cond (.t 43) .skip (.seq (.region [0, 1, 42, 43] [o0 54 (.bin .eql (.t 42) (.c (.int .u8 60))),
 o0 43 (.mv (.t 54))]) (.cond (.t 43) .skip (.seq (.region [0, 1, 42, 43] [o0 55 (.bin .eql (.t 42) (.c (.int .u8 43))),
 o0 43 (.mv (.t 55))]) (.cond (.t 43) .skip (.seq (.region [0, 1, 42, 43] [o0 56 (.bin .eql (.t 42) (.c (.int .u8 45))),
 o0 43 (.mv (.t 56))]) (.cond (.t 43) .skip (.seq (.region [0, 1, 42, 43] [o0 57 (.bin .eql (.t 42) (.c (.int .u8 42))),
 o0 43 (.mv (.t 57))]) (.cond (.t 43) .skip (.seq (.region [0, 1, 42, 43] [o0 58 (.bin .eql (.t 42) (.c (.int .u8 47))),
 o0 43 (.mv (.t 58))]) (.cond (.t 43) .skip (.seq (.region [0, 1, 42, 43] [o0 59 (.bin .eql (.t 42) (.c (.int .u8 37))),
 o0 43 (.mv (.t 59))]) (.cond (.t 43) .skip (.seq (.region [0, 1, 42, 43] [o0 60 (.bin .eql (.t 42) (.c (.int .u8 35))),
 o0 43 (.mv (.t 60))]) (.cond (.t 43) .skip (.region [0, 1, 43] [o0 61 (.bin .eql (.t 42) (.c (.int .u8 36))),
 o0 43 (.mv (.t 61))]))))))))))))))))))))))))))))))))))) (.cond (.t 43) (.seq (.region [4] [o0 62 (.mv (.t 0)),
 o0 63 (.mv (.t 1)),
 o0 64 (.mv (.t 1)),
 o0 65 (.bin .add (.t 64) (.c (.int .i64 1))),
 o0 66 (.sliceS (.t 62) (some (.t 63)) (some (.t 65))),
 o0 4 (.mv (.t 66))]) .ret) .skip)))) (.seq (.region [4] [o0 4 (.mv (.c (.string .empty)))]) .ret))))⟩
end Go.EX


set_option linter.unusedVariables false
set_option linter.unusedSimpArgs false
namespace Go.EX
attribute [simp] List.range_succ funOut zct zcr zcq XO.unlit XOp.unlit zcs zcn zco zcu zcm blockOut andThen exOps exOne exOp Env.ev Env.get Env.keep enter AV.cells fresh loadAt getCells getCellsI valBin boolBin intBin shiftBin strBin valUn intOf bndOf bounds
 storeAt imms leave resOf wrapRes order reach Mem.refs AObj.refs AV.refs AV.refs.refsL Mem.pickAll AObj.ren AV.ren AV.ren.renL place fillAll mkObj imZ sameCells St.tidy Env.roots Env.ren AV.plain1 AV.plain2 AV.plain AV.own1 AV.own2 AV.own IV.plain AObj.own AObj.live AV.isImm exView exOwn exShare shareOk AObj.isFix exPeek exLook frz frz.frz1 frzV AObj.moved AObj.orMoved shareAt St.scrub isKeyAV zeroAV
@[simp] theorem lenOf_nil : lenOf (.imm (.val (.slice none 0 0))) = some 0 := rfl
@[simp] theorem lenOf_slice (row : List IV) (off len : Nat) (cap : Option Nat) : lenOf (.imm (.slice row off len cap)) = some len := rfl
@[simp] theorem lenOf_osl (id off sz len : Nat) (cap : Option Nat) : lenOf (.osl id off sz len cap) = some len := rfl
@[simp] theorem capOf_slice (row : List IV) (off len : Nat) (cap : Option Nat) : capOf (.imm (.slice row off len cap)) = cap := rfl
@[simp] theorem capOf_osl (id off sz len : Nat) (cap : Option Nat) : capOf (.osl id off sz len cap) = cap := rfl
@[simp] theorem isNil_slice (row : List IV) (off len : Nat) (cap : Option Nat) : isNil (.imm (.slice row off len cap)) = some false := rfl
@[simp] theorem isNil_ptr (row : List IV) (off : Nat) : isNil (.imm (.ptr row off)) = some false := rfl
@[simp] theorem isNil_osl (id off sz len : Nat) (cap : Option Nat) : isNil (.osl id off sz len cap) = some false := rfl
@[simp] theorem isNil_optr (id off : Nat) : isNil (.optr id off) = some false := rfl
@[simp] theorem isNil_omap (id : Nat) : isNil (.omap id) = some false := rfl
@[simp] theorem isNil_pnone : isNil (.imm (.val (.pointer none))) = some true := rfl
@[simp] theorem isNilK_snone : isNilK 0 (.imm (.val (.slice none 0 0))) = some true := rfl
@[simp] theorem isNilK_slice (row : List IV) (off len : Nat) (cap : Option Nat) : isNilK 0 (.imm (.slice row off len cap)) = some false := rfl
@[simp] theorem isNilK_osl (id off sz len : Nat) (cap : Option Nat) : isNilK 0 (.osl id off sz len cap) = some false := rfl
@[simp] theorem isNilK_pnone : isNilK 1 (.imm (.val (.pointer none))) = some true := rfl
@[simp] theorem isNilK_ptr (row : List IV) (off : Nat) : isNilK 1 (.imm (.ptr row off)) = some false := rfl
@[simp] theorem isNilK_optr (id off : Nat) : isNilK 1 (.optr id off) = some false := rfl
@[simp] theorem int_beq (a b : Int) : (a == b) = decide (a = b) := by by_cases h : a = b <;> simp [h]
theorem zbe {a b : ByteArray} (h : a.toList = b.toList) : a = b := by
 have e : ∀ c : ByteArray, c.toList = c.data.toList := ByteArray.toList_eq
 rw [e, e] at h
 cases a; cases b
 simp at h
 exact congrArg ByteArray.mk h
@[simp] theorem bytes_beq (a b : ByteArray) : (a.toList == b.toList) = decide (a = b) := by
 by_cases h : a = b
 ·subst h; simp
 ·have : a.toList ≠ b.toList := fun e => h (zbe e)
  simp [h, this]
@[simp] theorem cut_zero {β : Type} (l : List β) : cut l 0 0 = some [] := by simp [cut]
@[simp] theorem cut_cons_zero {β : Type} (x : β) (l : List β) (n : Nat) : cut (x :: l) 0 (n + 1) = (cut l 0 n).map (x :: ·) := by
 simp only [cut, List.drop_zero, List.take_succ_cons, List.length_cons]
 by_cases h : (l.take n).length = n
 ·rw [if_pos h, if_pos (by omega)]; rfl
 ·rw [if_neg h, if_neg (by omega)]; rfl
@[simp] theorem cut_cons_succ {β : Type} (x : β) (l : List β) (o n : Nat) : cut (x :: l) (o + 1) n = cut l o n := by simp [cut]
@[simp] theorem setAll_nil {β : Type} (l : List β) (o : Nat) : setAll l o [] = l := rfl
@[simp] theorem setAll_cons_succ {β : Type} (x : β) : ∀ (ys l : List β) (o : Nat), setAll (x :: l) (o + 1) ys = x :: setAll l o ys
 | [], l, o => rfl
 | y :: ys, l, o => by rw [setAll, List.set_cons_succ, setAll_cons_succ x ys]; rfl
@[simp] theorem setAll_cons_zero {β : Type} (x y : β) (l ys : List β) : setAll (x :: l) 0 (y :: ys) = y :: setAll l 0 ys := by
 rw [setAll, List.set_cons_zero, setAll_cons_succ]
@[simp] theorem imms_imm : ∀ (l : List IV), imms (l.map .imm) = some l
 | [] => rfl
 | x :: l => by simp [imms, imms_imm l]
@[simp] theorem copies_0 {β : Type} (l : List β) : copies 0 l = [] := rfl
@[simp] theorem copies_1 {β : Type} (l : List β) : copies 1 l = l := by simp [copies]
@[simp] theorem copies_2 {β : Type} (l : List β) : copies 2 l = l ++ l := by simp [copies]
@[simp] theorem copies_3 {β : Type} (l : List β) : copies 3 l = l ++ (l ++ l) := by simp [copies]
@[simp] theorem copies_4 {β : Type} (l : List β) : copies 4 l = l ++ (l ++ (l ++ l)) := by simp [copies]
def Ty.row {α : Type} (t : Ty α) (xs : List α) : List IV := xs.flatMap t.enc
abbrev nilS : AV := .imm (.val (.slice none 0 0))
abbrev int64 (n : Int) : AV := .imm (.val (.int .i64 n))
abbrev avb (b : Bool) : AV := .imm (.val (.bool b))
theorem zh9 {code : Nat → Option XFun} {ext : Calls'} {keep : List Nat} {b : XCode} (I : Nat → St → Prop) (Q : XExit → St → Prop)
  (h : ∀ n s, I n s → ∃ e s', den code ext b (s.tidy keep) = some (e, s') ∧ ((e = .normal ∧ ∃ m, m < n ∧ I m s') ∨ (e ≠ .normal ∧ Q e s'))) : ∀ n s, I n s → ∃ e s', den code ext (.loop keep b) s = some (e, s') ∧ e ≠ .normal ∧ Q e s' := by
 intro n
 induction n using Nat.strongRecOn with
 | ind n ih =>
  intro s hs
  obtain ⟨e, s', h1, h2⟩ := h n s hs
  rw [zcp, h1]
  rcases h2 with ⟨rfl, m, hm, hI⟩ | ⟨hne, hq⟩
  ·exact ih m hm s' hI
  ·refine ⟨e, s', ?_, hne, hq⟩
   cases e with
   | normal => exact absurd rfl hne
   | exit id => rfl
   | ret => rfl
theorem wrapI64 {x : Int} (h1 : -9223372036854775808 ≤ x) (h2 : x ≤ 9223372036854775807) : IntKind.wrap .i64 x = x := by
 simp only [IntKind.wrap, IntKind.signed, IntKind.bits]
 simp
 omega
theorem wrapU64 {x : Int} (h1 : 0 ≤ x) (h2 : x ≤ 18446744073709551615) : IntKind.wrap .u64 x = x := by
 simp only [IntKind.wrap, IntKind.signed, IntKind.bits]
 simp
 omega
section
variable {α : Type} {t : Ty α} {iv : IV} {xs : List α}
theorem cut_mk {β : Type} {l : List β} {o n : Nat} {r : List β} (h : (l.drop o).take n = r) (hl : r.length = n) : cut l o n = some r := by
 unfold cut
 dsimp only
 rw [h, if_pos hl]
theorem ze5 (h0 : ∀ x, (t.enc x).length = t.sz) : ∀ (xs : List α) (i k : Nat), i + k ≤ xs.length → cut (xs.flatMap t.enc) (i * t.sz) (k * t.sz) = some (((xs.drop i).take k).flatMap t.enc) := by
 intro xs i k hk
 refine cut_mk ?_ ?_
 ·have hdrop : ∀ (i : Nat) (l : List α), (l.flatMap t.enc).drop (i * t.sz) = (l.drop i).flatMap t.enc := by
   intro i
   induction i with
   | zero => intro l; simp
   | succ i ih =>
    intro l
    cases l with
    | nil => simp
    | cons x l =>
     rw [List.flatMap_cons, Nat.add_mul, Nat.one_mul, Nat.add_comm, List.drop_append]
     have hx := h0 x
     rw [List.drop_eq_nil_of_le (by omega)]
     have : t.sz + i * t.sz - (t.enc x).length = i * t.sz := by omega
     rw [this, ih]; simp
  have htake : ∀ (k : Nat) (l : List α), (l.flatMap t.enc).take (k * t.sz) = (l.take k).flatMap t.enc := by
   intro k
   induction k with
   | zero => intro l; simp
   | succ i ih =>
    intro l
    cases l with
    | nil => simp
    | cons x l =>
     rw [List.flatMap_cons, Nat.add_mul, Nat.one_mul, Nat.add_comm, List.take_append]
     have hx := h0 x
     rw [List.take_of_length_le (by omega)]
     have : t.sz + i * t.sz - (t.enc x).length = i * t.sz := by omega
     rw [this, ih]; simp
  rw [hdrop, htake]
 ·rw [ze7 _ _ h0]
  simp only [List.length_take, List.length_drop]
  congr 1
  omega
theorem zol (t : Ty α) (xs : List α) : (t.row xs).length = xs.length * t.sz := ze7 _ _ t.len xs
theorem zom (t : Ty α) (xs : List α) (x : α) : t.row xs ++ t.enc x = t.row (xs ++ [x]) := by simp [Ty.row]
theorem ze8 {i : Nat} {x : α} (hx : xs[i]? = some x) : cut (t.row xs) (i * t.sz) t.sz = some (t.enc x) := by
 obtain ⟨hi, hxi⟩ := List.getElem?_eq_some_iff.1 hx
 have := ze5 t.len xs i 1 hi
 rw [Nat.one_mul] at this
 rw [Ty.row, this, List.drop_eq_getElem_cons hi, hxi]
 simp
theorem zpt {β : Type} : ∀ (ys l : List β) (o j : Nat), o + ys.length ≤ l.length → (setAll l o ys)[j]? = if o ≤ j ∧ j < o + ys.length then ys[j - o]? else l[j]?
 | [], l, o, j, h => by simp [setAll]; omega
 | y :: ys, l, o, j, h => by
  simp only [List.length_cons] at h ⊢
  rw [setAll, zpt ys (l.set o y) (o + 1) j (by rw [List.length_set]; omega), List.getElem?_set]
  by_cases h1 : o = j
  ·subst h1
   have e1 : ¬ (o + 1 ≤ o ∧ o < o + 1 + ys.length) := by omega
   rw [if_neg e1, if_pos rfl, if_pos (by omega), if_pos (by omega)]
   simp
  ·by_cases h2 : o + 1 ≤ j ∧ j < o + 1 + ys.length
   ·have e3 : j - o = (j - (o + 1)) + 1 := by omega
    rw [if_pos h2, if_pos (by omega), e3]
    simp
   ·rw [if_neg h2, if_neg h1, if_neg (by omega)]
theorem zpu (h0 : 0 < t.sz) {i : Nat} (hi : i < xs.length) (x : α) : setAll (t.row xs) (i * t.sz) (t.enc x) = t.row (xs.set i x) := by
 unfold Ty.row
 have hle : i * t.sz + (t.enc x).length ≤ (xs.flatMap t.enc).length := by
  rw [ze7 _ _ t.len, t.len, ← Nat.succ_mul]
  exact Nat.mul_le_mul_right _ hi
 refine List.ext_getElem? fun j => ?_
 rw [zpt _ _ _ _ hle, ze6 _ _ h0 t.len, ze6 _ _ h0 t.len, t.len, List.getElem?_set]
 by_cases h : i * t.sz ≤ j ∧ j < i * t.sz + t.sz
 ·have h1 : j / t.sz = i := by
   exact Nat.div_eq_of_lt_le h.1 (by rw [Nat.add_mul, Nat.one_mul]; exact h.2)
  have h2 : j % t.sz = j - i * t.sz := by
   have := Nat.div_add_mod j t.sz
   rw [h1, Nat.mul_comm] at this
   omega
  rw [if_pos h, h1, h2, if_pos rfl, if_pos hi]; rfl
 ·have h1 : ¬ (i = j / t.sz) := by
   intro e
   have h2 := Nat.div_add_mod j t.sz
   have h3 := Nat.mod_lt j h0
   rw [← e, Nat.mul_comm] at h2
   omega
  rw [if_neg h, if_neg h1]
end
end Go.EX


set_option linter.unusedVariables false
set_option linter.unusedSimpArgs false
namespace Go.EX
structure Val where
 k : Int
 n : Int
 deriving DecidableEq
def tVal : Ty Val := ⟨2, true, fun v => [.val (.int .u8 v.k), .val (.int .i64 v.n)], fun v => (tInt .u8).wf v.k ∧ (tInt .i64).wf v.n, fun _ => rfl⟩
structure Obj where
 k : Int
 s : ByteArray
 l : Sl tVal
 room : Int
 fn : Int
end Go.EX


set_option linter.unusedVariables false
set_option linter.unusedSimpArgs false
namespace Go.EX
def bs (l : List UInt8) : ByteArray := ⟨l.toArray⟩
theorem za9 (l : List UInt8) : (bs l).size = l.length := rfl
theorem bs_of (b : ByteArray) : bs b.data.toList = b := by cases b; rfl
theorem bs_inj {a b : List UInt8} : bs a = bs b ↔ a = b := by
 constructor
 ·intro h
  have := congrArg (fun x => x.data.toList) h
  simpa [bs] using this
 ·intro h; rw [h]
theorem bs_get (l : List UInt8) (i : Nat) : (bs l)[i]? = l[i]? := by
 by_cases h : i < l.length
 ·rw [List.getElem?_eq_getElem h, getElem?_pos (bs l) i (by rw [za9]; exact h)]
  rfl
 ·rw [List.getElem?_eq_none (by omega), getElem?_neg (bs l) i (by rw [za9]; exact h)]
theorem bs_at {l : List UInt8} {i : Nat} {c : UInt8} (h : l[i]? = some c) (hi : i < (bs l).size) : (bs l)[i]'hi = c := by
 have h1 := bs_get l i
 rw [h, getElem?_pos (bs l) i hi] at h1
 exact Option.some.inj h1
theorem za6 (a b : List UInt8) : bs a ++ bs b = bs (a ++ b) := by
 apply ByteArray.ext
 rw [ByteArray.data_append]
 simp [bs]
theorem za8 (l : List UInt8) (i j : Nat) : (bs l).extract i j = bs ((l.drop i).take (j - i)) := by
 apply ByteArray.ext
 rw [ByteArray.data_extract]
 apply Array.ext'
 simp [bs, Array.toList_extract]
theorem zba (l : List UInt8) (j : Nat) : (bs l).extract 0 j = bs (l.take j) := by rw [za8]; simp
theorem za7 (l : List UInt8) (i : Nat) : (bs l).extract i l.length = bs (l.drop i) := by
 rw [za8, List.take_of_length_le (by simp)]
theorem zr7 {α : Type} (p : α → Bool) : ∀ (l : List α), ∃ k, k ≤ l.length ∧ l.take k = l.takeWhile p ∧ l.drop k = l.dropWhile p ∧ (∀ (i : Nat) x, i < k → l[i]? = some x → p x = true) ∧ (∀ x, l[k]? = some x → p x = false)
 | [] => ⟨0, Nat.le_refl _, rfl, rfl, fun i x h => by omega, fun x h => by simp at h⟩
 | x :: l => by
  cases hp : p x with
  | false => exact ⟨0, Nat.zero_le _, by simp [List.takeWhile, hp], by simp [List.dropWhile, hp], fun i y h => by omega, fun y h => by simp at h; subst h; exact hp⟩
  | true =>
   obtain ⟨k, h1, h2, h3, h4, h5⟩ := zr7 p l
   refine ⟨k + 1, by simp; omega, by simp [List.takeWhile, hp, h2], by simp [List.dropWhile, hp, h3], fun i y hi hy => ?_, fun y hy => h5 y (by simpa using hy)⟩
   cases i with
   | zero => simp at hy; subst hy; exact hp
   | succ i => exact h4 i y (by omega) (by simpa using hy)
abbrev strV5 (b : ByteArray) : AV := .imm (.val (.string b))
abbrev u8V (c : UInt8) : AV := .imm (.val (.int .u8 c.toNat))
def scanM (l : List UInt8) (line : Int) : Mem := [.rich [strV5 (bs l), int64 line]]
section
variable {code : Nat → Option XFun} {ext : Calls'}
theorem zde (h : code 188 = some x188) {g : Nat} {p : UInt8 → Bool} (hp : ∀ c, callW code ext g [u8V c] [] = some (avb (p c), [])) (l : List UInt8) (line : Int) (hl : l.length ≤ 1000000) :
  callW code ext 188 [.optr 0 0, .clo g []] (scanM l line) = some (strV5 (bs (l.takeWhile p)), scanM (l.dropWhile p) line) := by
 obtain ⟨k, hk, htk, hdk, h4, h5⟩ := zr7 p l
 rw [← htk, ← hdk]
 clear htk hdk
 unfold scanM
 have loop : ∃ e s', den code ext (.loop [0, 1, 5] x188L1) ⟨1, [(0, .optr 0 0), (1, .clo g []), (5, int64 0)], [.rich [strV5 (bs l), int64 line]]⟩ = some (e, s') ∧ e ≠ .normal ∧
   (e = .exit 0 ∧ s' = ⟨1, [(0, .optr 0 0), (1, .clo g []), (5, int64 k), (23, avb false)], [.rich [strV5 (bs l), int64 line]]⟩) := by
  refine zh9 (fun n s => ∃ i, i + n = k ∧ s.tidy [0, 1, 5] = ⟨1, [(0, .optr 0 0), (1, .clo g []), (5, int64 (i : Nat))], [.rich [strV5 (bs l), int64 line]]⟩) _ ?_ k _ ⟨0, by simp, by simp -implicitDefEqProofs⟩
  rintro n s ⟨i, hi, hst⟩
  rw [hst]
  have hsz := za9 l
  have e1 : IntKind.wrap .i64 ((i : Int) + 1) = (i : Int) + 1 := wrapI64 (by omega) (by omega)
  by_cases hlt : i < l.length
  ·have hx := List.getElem?_eq_getElem hlt
   have hg := bs_at hx (by rw [za9]; exact hlt)
   have hpx := hp l[i]
   have hlt' : (i : Int) < l.length := by omega
   by_cases hik : i < k
   ·rw [h4 i _ hik hx] at hpx
    generalize l[i] = c at *
    refine ⟨.normal, ⟨1, [(0, .optr 0 0), (1, .clo g []), (5, int64 ((i : Int) + 1))], [.rich [strV5 (bs l), int64 line]]⟩, ?_, .inl ⟨rfl, n - 1, by omega, i + 1, by omega, by simp -implicitDefEqProofs⟩⟩
    simp -implicitDefEqProofs [x188L1, hsz, hlt, hlt', hg, hpx, e1]
   ·have hik' : i = k := by omega
    subst hik'
    rw [h5 _ hx] at hpx
    generalize l[i] = c at *
    refine ⟨.exit 0, _, ?_, .inr ⟨by simp, rfl, rfl⟩⟩
    simp -implicitDefEqProofs [x188L1, hsz, hlt, hlt', hg, hpx]
  ·have hik' : i = k := by omega
   subst hik'
   have hlt' : ¬ (i : Int) < l.length := by omega
   refine ⟨.exit 0, _, ?_, .inr ⟨by simp, rfl, rfl⟩⟩
   simp -implicitDefEqProofs [x188L1, hsz, hlt, hlt']
 obtain ⟨e, s', l1, _, rfl, rfl⟩ := loop
 rw [zbi code ext h]
 unfold x188
 generalize x188L1 = L at *
 have hsz := za9 l
 have ht := zba l k
 have hd := za7 l k
 have hk' : (k : Int) ≤ l.length := by omega
 generalize bs (l.take k) = T at *
 generalize bs (l.drop k) = D at *
 generalize bs l = B at *
 simp -implicitDefEqProofs [l1, hsz, ht, hd, hk, hk']
end
end Go.EX


set_option linter.unusedVariables false
set_option linter.unusedSimpArgs false
namespace Go.EX
def leadsOf (S : List Obj) (v : Val) : Option Nat :=
 if v.k < 3 then none else if 7 < v.k then none else if v.n < 1 then none else if (S.length : Int) < v.n then none else
 match S[(v.n - 1).toNat]? with
 | some o => if o.k = v.k then some (v.n - 1).toNat else none
 | none => none
theorem zhj {S : List Obj} {v : Val} {k : Nat} (h : leadsOf S v = some k) : k < S.length ∧ (k : Int) = v.n - 1 ∧ 3 ≤ v.k ∧ v.k ≤ 7 ∧ ∃ o, S[k]? = some o ∧ o.k = v.k := by
 unfold leadsOf at h
 split at h
 ·cases h
 split at h
 ·cases h
 split at h
 ·cases h
 split at h
 ·cases h
 split at h
 ·rename_i o ho
  split at h
  ·rename_i hk
   cases h
   have := (List.getElem?_eq_some_iff.1 ho).1
   exact ⟨this, by omega, by omega, by omega, o, ho, hk⟩
  ·cases h
 ·cases h
inductive Reach (S : List Obj) (roots : List Val) : Nat → Prop
 | root {v : Val} {j : Nat} (hv : v ∈ roots) (h : leadsOf S v = some j) : Reach S roots j
 | step {k j : Nat} {o : Obj} {v : Val} (hk : Reach S roots k) (ho : S[k]? = some o) (hv : v ∈ o.l.xs) (h : leadsOf S v = some j) : Reach S roots j
theorem Reach.lt {S : List Obj} {roots : List Val} {k : Nat} (h : Reach S roots k) : k < S.length := by
 cases h with
 | root _ h => exact (zhj h).1
 | step _ _ _ h => exact (zhj h).1
structure Marks (S : List Obj) (roots : List Val) (F : List Bool) (T : List Val) : Prop where
 len : F.length = S.length
 mark : ∀ k, F[k]? = some true → Reach S roots k
 todo : ∀ v ∈ T, ∀ j, leadsOf S v = some j → Reach S roots j
 roots : ∀ v ∈ roots, ∀ j, leadsOf S v = some j → F[j]? = some true ∨ v ∈ T
 step : ∀ (k : Nat) (o : Obj), F[k]? = some true → S[k]? = some o → ∀ v ∈ o.l.xs, ∀ j : Nat, leadsOf S v = some j → F[j]? = some true ∨ v ∈ T
theorem Marks.start (S : List Obj) (roots : List Val) : Marks S roots (List.replicate S.length false) roots :=
 ⟨by simp, fun k h => by simp [List.getElem?_replicate] at h, fun v hv j h => .root hv h, fun v hv j h => .inr hv, fun k o h => by simp [List.getElem?_replicate] at h⟩
theorem Marks.drop {S : List Obj} {roots : List Val} {F : List Bool} {T : List Val} {v : Val} (h : Marks S roots F (T ++ [v])) (hv : ∀ j, leadsOf S v = some j → F[j]? = some true) : Marks S roots F T := by
 have key : ∀ u j, leadsOf S u = some j → (F[j]? = some true ∨ u ∈ T ++ [v]) → F[j]? = some true ∨ u ∈ T := by
  intro u j hu h1
  rcases h1 with h1 | h1
  ·exact .inl h1
  ·rw [List.mem_append, List.mem_singleton] at h1
   rcases h1 with h1 | rfl
   ·exact .inr h1
   ·exact .inl (hv j hu)
 exact ⟨h.len, h.mark, fun u hu j hj => h.todo u (List.mem_append_left _ hu) j hj, fun u hu j hj => key u j hj (h.roots u hu j hj), fun k o hk ho u hu j hj => key u j hj (h.step k o hk ho u hu j hj)⟩
theorem Marks.take {S : List Obj} {roots : List Val} {F : List Bool} {T : List Val} {v : Val} {k : Nat} {o : Obj} (h : Marks S roots F (T ++ [v])) (hv : leadsOf S v = some k) (hF : F[k]? = some false) (ho : S[k]? = some o) : Marks S roots (F.set k true) (T ++ o.l.xs) := by
 have hkl : k < F.length := (List.getElem?_eq_some_iff.1 hF).1
 have hk := h.todo v (by simp) k hv
 have hset : ∀ j, (F.set k true)[j]? = some true ↔ j = k ∨ F[j]? = some true := by
  intro j
  rw [List.getElem?_set]
  by_cases e : k = j
  ·subst e; simp [hkl]
  ·rw [if_neg e]; simp [Ne.symm e]
 have key : ∀ u j, leadsOf S u = some j → (F[j]? = some true ∨ u ∈ T ++ [v]) → (F.set k true)[j]? = some true ∨ u ∈ T ++ o.l.xs := by
  intro u j hu h1
  rcases h1 with h1 | h1
  ·exact .inl ((hset j).2 (.inr h1))
  ·rw [List.mem_append, List.mem_singleton] at h1
   rcases h1 with h1 | rfl
   ·exact .inr (List.mem_append_left _ h1)
   ·rw [hv] at hu; cases hu; exact .inl ((hset k).2 (.inl rfl))
 refine ⟨by simp [h.len], fun j hj => ?_, fun u hu j hj => ?_, fun u hu j hj => key u j hj (h.roots u hu j hj), fun q p hq hp u hu j hj => ?_⟩
 ·rcases (hset j).1 hj with rfl | hj
  ·exact hk
  ·exact h.mark j hj
 ·rw [List.mem_append] at hu
  rcases hu with hu | hu
  ·exact h.todo u (List.mem_append_left _ hu) j hj
  ·exact .step hk ho hu hj
 ·rcases (hset q).1 hq with rfl | hq
  ·rw [ho] at hp; cases hp
   exact .inr (List.mem_append_right _ hu)
  ·exact key u j hj (h.step q p hq hp u hu j hj)
theorem Marks.done {S : List Obj} {roots : List Val} {F : List Bool} (h : Marks S roots F []) (k : Nat) : F[k]? = some true ↔ Reach S roots k := by
 refine ⟨h.mark k, fun hk => ?_⟩
 induction hk with
 | root hv hl => rcases h.roots _ hv _ hl with h | h; exact h; cases h
 | step _ ho hv hl ih => rcases h.step _ _ ih ho _ hv _ hl with h | h; exact h; cases h
def addAll (S : List Obj) : List Nat → List Val → List Nat
 | out, [] => out
 | out, v :: l => match leadsOf S v with
  | some o => if o ∈ out then addAll S out l else addAll S (out ++ [o]) l
  | none => addAll S out l
theorem zad (S : List Obj) : ∀ (l : List Val) (out : List Nat), ∃ r, addAll S out l = out ++ r
 | [], out => ⟨[], by simp [addAll]⟩
 | v :: l, out => by
  rw [addAll]
  split
  ·rename_i o ho
   split
   ·exact zad S l out
   ·obtain ⟨r, hr⟩ := zad S l (out ++ [o])
    exact ⟨o :: r, by rw [hr]; simp⟩
  ·exact zad S l out
theorem zac (S : List Obj) : ∀ (l : List Val) (out : List Nat), out.Nodup → (addAll S out l).Nodup
 | [], out, h => h
 | v :: l, out, h => by
  rw [addAll]
  split
  ·rename_i o ho
   split
   ·exact zac S l out h
   ·rename_i hn
    refine zac S l _ ?_
    rw [List.nodup_append]
    exact ⟨h, by simp, fun a ha b hb => by simp at hb; subst hb; exact fun e => hn (e ▸ ha)⟩
  ·exact zac S l out h
theorem zab (S : List Obj) : ∀ (l : List Val) (out : List Nat) (j : Nat), j ∈ addAll S out l ↔ j ∈ out ∨ ∃ v ∈ l, leadsOf S v = some j
 | [], out, j => by simp [addAll]
 | v :: l, out, j => by
  rw [addAll]
  split
  ·rename_i o ho
   split
   ·rename_i hm
    rw [zab S l out j]
    constructor
    ·rintro (h | ⟨u, hu, h⟩)
     ·exact .inl h
     ·exact .inr ⟨u, List.mem_cons_of_mem _ hu, h⟩
    ·rintro (h | ⟨u, hu, h⟩)
     ·exact .inl h
     ·rcases List.mem_cons.1 hu with rfl | hu
      ·rw [ho] at h; cases h; exact .inl hm
      ·exact .inr ⟨u, hu, h⟩
   ·rw [zab S l _ j, List.mem_append, List.mem_singleton]
    constructor
    ·rintro ((h | rfl) | ⟨u, hu, h⟩)
     ·exact .inl h
     ·exact .inr ⟨v, List.mem_cons_self .., ho⟩
     ·exact .inr ⟨u, List.mem_cons_of_mem _ hu, h⟩
    ·rintro (h | ⟨u, hu, h⟩)
     ·exact .inl (.inl h)
     ·rcases List.mem_cons.1 hu with rfl | hu
      ·rw [ho] at h; cases h; exact .inl (.inr rfl)
      ·exact .inr ⟨u, hu, h⟩
  ·rename_i hn
   rw [zab S l out j]
   constructor
   ·rintro (h | ⟨u, hu, h⟩)
    ·exact .inl h
    ·exact .inr ⟨u, List.mem_cons_of_mem _ hu, h⟩
   ·rintro (h | ⟨u, hu, h⟩)
    ·exact .inl h
    ·rcases List.mem_cons.1 hu with rfl | hu
     ·rw [hn] at h; cases h
     ·exact .inr ⟨u, hu, h⟩
structure Grown (S : List Obj) (roots : List Val) (out : List Nat) (i : Nat) : Prop where
 nodup : out.Nodup
 reach : ∀ k ∈ out, Reach S roots k
 roots : ∀ v ∈ roots, ∀ j, leadsOf S v = some j → j ∈ out
 step : ∀ k ∈ out.take i, ∀ o : Obj, S[k]? = some o → ∀ v ∈ o.l.xs, ∀ j, leadsOf S v = some j → j ∈ out
theorem Grown.start (S : List Obj) (roots : List Val) : Grown S roots (addAll S [] roots) 0 :=
 ⟨zac S roots [] (by simp), fun k hk => by
  rcases (zab S roots [] k).1 hk with h | ⟨v, hv, h⟩
  ·cases h
  ·exact .root hv h, fun v hv j hj => (zab S roots [] j).2 (.inr ⟨v, hv, hj⟩), fun k hk => by simp at hk⟩
theorem Grown.next {S : List Obj} {roots : List Val} {out : List Nat} {i k : Nat} {o : Obj} (h : Grown S roots out i) (hk : out[i]? = some k) (ho : S[k]? = some o) : Grown S roots (addAll S out o.l.xs) (i + 1) := by
 have hi := (List.getElem?_eq_some_iff.1 hk).1
 refine ⟨zac S _ _ h.nodup, fun j hj => ?_, fun v hv j hj => (zab S _ _ j).2 (.inl (h.roots v hv j hj)), fun q hq p hp v hv j hj => ?_⟩
 ·rcases (zab S _ _ j).1 hj with hj | ⟨v, hv, hj⟩
  ·exact h.reach j hj
  ·exact .step (h.reach k (List.mem_of_getElem? hk)) ho hv hj
 ·obtain ⟨r, hr⟩ := zad S o.l.xs out
  rw [hr, List.take_append_of_le_length (by omega), List.take_add_one, hk, List.mem_append] at hq
  rcases hq with hq | hq
  ·exact (zab S _ _ j).2 (.inl (h.step q hq p hp v hv j hj))
  ·simp at hq; subst hq
   rw [ho] at hp; cases hp
   exact (zab S _ _ j).2 (.inr ⟨v, hv, hj⟩)
theorem Grown.done {S : List Obj} {roots : List Val} {out : List Nat} {i : Nat} (h : Grown S roots out i) (hi : out.length ≤ i) (k : Nat) : k ∈ out ↔ Reach S roots k := by
 refine ⟨h.reach k, fun hk => ?_⟩
 have hs := h.step
 rw [List.take_of_length_le hi] at hs
 induction hk with
 | root hv hl => exact h.roots _ hv _ hl
 | step _ ho hv hl ih => exact hs _ ih _ ho _ hv _ hl
end Go.EX


set_option linter.unusedVariables false
set_option linter.unusedSimpArgs false
namespace Go.EX
abbrev strV (b : ByteArray) : AV := .imm (.val (.string b))
section
variable {code : Nat → Option XFun} {ext : Calls'}
theorem zof (b : ByteArray) : (rowOfS b).length = b.size := by simp [rowOfS]
theorem zoe (a b : ByteArray) : rowOfS (a ++ b) = rowOfS a ++ rowOfS b := by
 simp [rowOfS, ByteArray.data_append]
theorem zqd (a b : ByteArray) : (a ++ b).size = a.size + b.size := ByteArray.size_append
def bAddr : Bool → AV
 | true => .optr 0 0
 | false => .seat 0 0
end
end Go.EX


set_option linter.unusedVariables false
set_option linter.unusedSimpArgs false
namespace Go.EX
def dig (n : Int) : ByteArray := ⟨(Go.Lib.itoa n).toArray⟩
section
variable {code : Nat → Option XFun} {ext : Calls'}
end
end Go.EX


set_option linter.unusedVariables false
set_option linter.unusedSimpArgs false
namespace Go.EX
section
variable {code : Nat → Option XFun} {ext : Calls'}
theorem q_eql (k : IntKind) (a b : Int) : intBin .eql k a b = some (.bool (a == b)) := rfl
end
end Go.EX


set_option linter.unusedVariables false
set_option linter.unusedSimpArgs false
namespace Go.EX
theorem zsd (l : List UInt8) : u8s (l.map fun c => IV.val (.int .u8 c.toNat)) = some (l.map fun c => (c.toNat : Int)) := by
 induction l with
 | nil => rfl
 | cons c l ih => simp [u8s, ih]
theorem zbd (b : ByteArray) : pushAll (b.data.toList.map fun c => (c.toNat : Int)) = b := by
 rw [zmr]
 cases b with
 | mk d =>
  simp only [List.map_map]
  congr 1
  have : ((fun n : Int => UInt8.ofNat n.toNat) ∘ fun c : UInt8 => (c.toNat : Int)) = id := by
   funext c
   simp
  rw [this]
  simp
theorem mem_of {x : Option (AV × Mem)} {r : AV} (h : x.map Prod.fst = some r) : ∃ m, x = some (r, m) := by
 cases x with
 | none => cases h
 | some p => obtain ⟨a, m⟩ := p; cases h; exact ⟨m, rfl⟩
section
variable {code : Nat → Option XFun} {ext : Calls'}
end
end Go.EX


set_option linter.unusedVariables false
set_option linter.unusedSimpArgs false
namespace Go.EX
def isDigit (c : UInt8) : Bool := decide (48 ≤ c.toNat) && decide (c.toNat ≤ 57)
def isLetter (c : UInt8) : Bool := ((decide (97 ≤ c.toNat) && decide (c.toNat ≤ 122)) || (decide (65 ≤ c.toNat) && decide (c.toNat ≤ 90))) || decide (c.toNat = 95)
def isBlank (c : UInt8) : Bool := (decide (c.toNat = 32) || decide (c.toNat = 9)) || decide (c.toNat = 10)
def notEnd (c : UInt8) : Bool := !decide (c.toNat = 10)
def isPlain (c : UInt8) : Bool := (!decide (c.toNat = 34) && !decide (c.toNat = 92)) && !decide (c.toNat = 10)
def isWord (c : UInt8) : Bool := isDigit c || isLetter c
def hasPre (p l : List UInt8) : Bool := decide (l.take p.length = p)
def or8 (n : Nat) : Int := IntKind.wrap .u8 ((BitVec.ofInt (IntKind.bits .u8) (n : Int) ||| BitVec.ofInt (IntKind.bits .u8) 32).toNat)
theorem or8_is (n : Nat) : intBin .or .u8 (n : Int) 32 = some (.int .u8 (or8 n)) := rfl
theorem zk6 : ∀ n : Fin 256, (decide (97 ≤ or8 n.val) && decide (or8 n.val ≤ 122)) = ((decide (97 ≤ n.val) && decide (n.val ≤ 122)) || (decide (65 ≤ n.val) && decide (n.val ≤ 90))) := by decide +kernel
theorem q_geq (k : IntKind) (a b : Int) : intBin .geq k a b = some (.bool (a ≥ b)) := rfl
theorem q_leq (k : IntKind) (a b : Int) : intBin .leq k a b = some (.bool (a ≤ b)) := rfl
section
variable {code : Nat → Option XFun} {ext : Calls'}
theorem zcw (h : code 569 = some x569) (c : UInt8) : callW code ext 569 [u8V c] [] = some (avb (isDigit c), []) := by
 rw [zbi code ext h]
 unfold isDigit u8V
 generalize c.toNat = n
 by_cases h1 : 48 ≤ n
 ·have h1' : (48 : Int) ≤ n := by omega
  by_cases h2 : n ≤ 57
  ·have h2' : (n : Int) ≤ 57 := by omega
   simp -implicitDefEqProofs [x569, h1, h2, h1', h2']
  ·have h2' : ¬ (n : Int) ≤ 57 := by omega
   simp -implicitDefEqProofs [x569, h1, h2, h1', h2']
 ·have h1' : ¬ (48 : Int) ≤ n := by omega
  simp -implicitDefEqProofs [x569, h1, h1']
theorem zhn (h : code 570 = some x570) (c : UInt8) : callW code ext 570 [u8V c] [] = some (avb (isLetter c), []) := by
 have key : ∀ (n : Nat) (m : Int), intBin .or .u8 (n : Int) 32 = some (.int .u8 m) → callW code ext 570 [.imm (.val (.int .u8 (n : Nat)))] [] = some (avb ((decide (97 ≤ m) && decide (m ≤ 122)) || decide (n = 95)), []) := by
  intro n m hor
  rw [zbi code ext h]
  by_cases h3 : n = 95
  ·have h3' : (n : Int) = 95 := by omega
   have hor : intBin .or .u8 95 32 = some (.int .u8 m) := by rw [h3] at hor; exact hor
   by_cases h1 : 97 ≤ m
   ·by_cases h2 : m ≤ 122
    ·simp -implicitDefEqProofs [-intBin, q_geq, q_leq, q_eql, x570, hor, h1, h2, h3, h3']
    ·simp -implicitDefEqProofs [-intBin, q_geq, q_leq, q_eql, x570, hor, h1, h2, h3, h3']
   ·simp -implicitDefEqProofs [-intBin, q_geq, q_leq, q_eql, x570, hor, h1, h3, h3']
  ·have h3' : ¬ (n : Int) = 95 := by omega
   by_cases h1 : 97 ≤ m
   ·by_cases h2 : m ≤ 122
    ·simp -implicitDefEqProofs [-intBin, q_geq, q_leq, q_eql, x570, hor, h1, h2, h3, h3']
    ·simp -implicitDefEqProofs [-intBin, q_geq, q_leq, q_eql, x570, hor, h1, h2, h3, h3']
   ·simp -implicitDefEqProofs [-intBin, q_geq, q_leq, q_eql, x570, hor, h1, h3, h3']
 have h0 := zk6 ⟨c.toNat, c.toNat_lt⟩
 have hk := key c.toNat (or8 c.toNat) (or8_is _)
 dsimp only at h0
 unfold isLetter
 rw [← h0]
 exact hk
theorem za5 (h : code 190 = some x190) (c : UInt8) : callW code ext 190 [u8V c] [] = some (avb (isBlank c), []) := by
 rw [zbi code ext h]
 unfold isBlank u8V
 generalize c.toNat = n
 by_cases h1 : n = 32
 ·subst h1; simp -implicitDefEqProofs [x190]
 ·have h1' : ¬ (n : Int) = 32 := by omega
  by_cases h2 : n = 9
  ·subst h2; simp -implicitDefEqProofs [x190]
  ·have h2' : ¬ (n : Int) = 9 := by omega
   by_cases h3 : n = 10
   ·subst h3; simp -implicitDefEqProofs [x190]
   ·have h3' : ¬ (n : Int) = 10 := by omega
    simp -implicitDefEqProofs [x190, h1, h1', h2, h2', h3, h3']
theorem zkp (h : code 191 = some x191) (c : UInt8) : callW code ext 191 [u8V c] [] = some (avb (notEnd c), []) := by
 rw [zbi code ext h]
 unfold notEnd u8V
 generalize c.toNat = n
 by_cases h1 : n = 10
 ·subst h1; simp -implicitDefEqProofs [x191]
 ·have h1' : ¬ (n : Int) = 10 := by omega
  simp -implicitDefEqProofs [x191, h1, h1']
theorem zme (h : code 193 = some x193) (c : UInt8) : callW code ext 193 [u8V c] [] = some (avb (isPlain c), []) := by
 rw [zbi code ext h]
 unfold isPlain u8V
 generalize c.toNat = n
 by_cases h1 : n = 34
 ·subst h1; simp -implicitDefEqProofs [x193]
 ·have h1' : ¬ (n : Int) = 34 := by omega
  by_cases h2 : n = 92
  ·subst h2; simp -implicitDefEqProofs [x193]
  ·have h2' : ¬ (n : Int) = 92 := by omega
   by_cases h3 : n = 10
   ·subst h3; simp -implicitDefEqProofs [x193]
   ·have h3' : ¬ (n : Int) = 10 := by omega
    simp -implicitDefEqProofs [x193, h1, h1', h2, h2', h3, h3']
theorem zsy (h : code 195 = some x195) (h1 : code 569 = some x569) (h2 : code 570 = some x570) (c : UInt8) : callW code ext 195 [u8V c] [] = some (avb (isWord c), []) := by
 have hd := zcw (ext := ext) h1 c
 have hl := zhn (ext := ext) h2 c
 rw [zbi code ext h]
 unfold isWord
 generalize isDigit c = a at *
 generalize isLetter c = b at *
 cases a
 ·simp -implicitDefEqProofs [x195, hd, hl]
 ·simp -implicitDefEqProofs [x195, hd, hl]
theorem zmk (h : code 725 = some x725) (l p : List UInt8) : callW code ext 725 [strV (bs l), strV (bs p)] [] = some (avb (hasPre p l), []) := by
 rw [zbi code ext h]
 have hs1 := za9 l
 have hs2 := za9 p
 have ht := zba l p.length
 unfold hasPre
 by_cases hle : p.length ≤ l.length
 ·have hle' : (p.length : Int) ≤ l.length := by omega
  have heq : decide (bs (l.take p.length) = bs p) = decide (l.take p.length = p) := by rw [decide_eq_decide]; exact bs_inj
  rw [← heq]
  generalize bs (l.take p.length) = T at *
  generalize bs l = L at *
  generalize bs p = Q at *
  simp -implicitDefEqProofs [x725, hs1, hs2, ht, hle, hle']
 ·have hle' : ¬ (p.length : Int) ≤ l.length := by omega
  have : l.take p.length ≠ p := by
   intro he
   have := congrArg List.length he
   rw [List.length_take] at this
   omega
  rw [decide_eq_false this]
  generalize bs l = L at *
  generalize bs p = Q at *
  simp -implicitDefEqProofs [x725, hs1, hs2, hle, hle']
theorem zmn (h0 : code 798 = some x798) (h : code 725 = some x725) (l p : List UInt8) : callW code ext 798 [strV (bs l), strV (bs p)] [] = some (avb (hasPre p l), []) := by
 have hp := zmk (ext := ext) h l p
 rw [zbi code ext h0]
 generalize bs l = L at *
 generalize bs p = Q at *
 simp -implicitDefEqProofs [x798, hp]
end
end Go.EX


set_option linter.unusedVariables false
set_option linter.unusedSimpArgs false
namespace Go.EX
def countNL (l : List UInt8) : Nat := l.countP fun c => decide (c.toNat = 10)
theorem zb5 (l : List UInt8) : countNL l ≤ l.length := List.countP_le_length
theorem zc6 {α : Type} (p : α → Bool) : ∀ (l : List α), (l.dropWhile p).length ≤ l.length
 | [] => Nat.le_refl _
 | x :: l => by
  cases hp : p x with
  | false => simp [List.dropWhile, hp]
  | true => simp [List.dropWhile, hp]; have := zc6 p l; omega
theorem zmp {a b : UInt8} {l : List UInt8} (h : hasPre [a, b] l = true) : ∃ q, l = a :: b :: q := by
 unfold hasPre at h
 have h := of_decide_eq_true h
 match l, h with
 | [], h => simp at h
 | [x], h => simp at h
 | x :: y :: q, h => simp at h; obtain ⟨rfl, rfl⟩ := h; exact ⟨q, rfl⟩
theorem zkr {l : List UInt8} (h : hasPre [47, 47] (l.dropWhile isBlank) = true) : ((l.dropWhile isBlank).dropWhile notEnd).length < l.length := by
 obtain ⟨q, hq⟩ := zmp h
 have h1 := zc6 isBlank l
 rw [hq] at h1 ⊢
 have h2 := zc6 notEnd q
 have : ((47 : UInt8) :: 47 :: q).dropWhile notEnd = q.dropWhile notEnd := by
  have : notEnd 47 = true := by decide
  simp [List.dropWhile, this]
 rw [this]
 simp at h1
 omega
def skipL (l : List UInt8) (n : Nat) : List UInt8 × Nat :=
 if h : hasPre [47, 47] (l.dropWhile isBlank) = true then skipL ((l.dropWhile isBlank).dropWhile notEnd) (n + countNL (l.takeWhile isBlank)) else (l.dropWhile isBlank, n + countNL (l.takeWhile isBlank))
termination_by l.length
decreasing_by exact zkr h
theorem zqi {l : List UInt8} (n : Nat) (h : hasPre [47, 47] (l.dropWhile isBlank) = true) : skipL l n = skipL ((l.dropWhile isBlank).dropWhile notEnd) (n + countNL (l.takeWhile isBlank)) := by
 conv => lhs; unfold skipL
 rw [dif_pos h]
theorem zqf {l : List UInt8} (n : Nat) (h : hasPre [47, 47] (l.dropWhile isBlank) = false) : skipL l n = (l.dropWhile isBlank, n + countNL (l.takeWhile isBlank)) := by
 conv => lhs; unfold skipL
 rw [dif_neg (by simp [h])]
theorem zcl {l : List UInt8} {i : Nat} {c : UInt8} (h : l[i]? = some c) (hc : c.toNat < 128) : Utf8.decode (bs l) i = (c.toNat, 1) := by
 have hi : i < l.length := (List.getElem?_eq_some_iff.1 h).1
 have hg : (bs l).get! i = c := by
  show l.toArray[i]! = c
  have : l.toArray[i]? = some c := by simpa using h
  rw [getElem!_def, this]
 unfold Utf8.decode
 simp only [Nat.add_zero, hg]
 rw [if_pos (by simpa using hc)]
theorem tw_all {α : Type} (p : α → Bool) : ∀ (l : List α) (x : α), x ∈ l.takeWhile p → p x = true
 | [], x, h => by cases h
 | y :: l, x, h => by
  cases hp : p y with
  | false => simp [List.takeWhile, hp] at h
  | true =>
   simp [List.takeWhile, hp] at h
   rcases h with rfl | h
   ·exact hp
   ·exact tw_all p l x h
theorem tw_len {α : Type} (p : α → Bool) : ∀ (l : List α), (l.takeWhile p).length + (l.dropWhile p).length = l.length
 | [] => rfl
 | x :: l => by
  cases hp : p x with
  | false => simp [List.takeWhile, List.dropWhile, hp]
  | true => simp [List.takeWhile, List.dropWhile, hp]; have := tw_len p l; omega
section
variable {code : Nat → Option XFun} {ext : Calls'}
theorem zhq (a r : List UInt8) (ha : ∀ c ∈ a, isBlank c = true) (n : Nat) (hb : n + a.length ≤ 1000000000) (s0 : St)
  (hs0 : s0.tidy [0, 6] = ⟨1, [(0, .optr 0 0), (6, .optr 1 0)], [.rich [strV (bs r), int64 (n : Nat)], .iter (bs a) 0]⟩) :
  ∃ e s', den code ext (.loop [0, 6] x189L1) s0 = some (e, s') ∧ e ≠ .normal ∧
   (e = .exit 2 ∧ s' = ⟨1, [(0, .optr 0 0), (6, .optr 1 0), (7, .tup [avb false]), (8, avb false)], [.rich [strV (bs r), int64 ((n + countNL a : Nat) : Int)], .iter (bs a) a.length]⟩) := by
 refine zh9 (fun m s => ∃ i, i + m = a.length ∧ s.tidy [0, 6] = ⟨1, [(0, .optr 0 0), (6, .optr 1 0)], [.rich [strV (bs r), int64 ((n + countNL (a.take i) : Nat) : Int)], .iter (bs a) i]⟩) _ ?_ a.length _ ⟨0, by simp, by simpa [countNL] using hs0⟩
 rintro m s ⟨i, hi, hst⟩
 rw [hst]
 have hsz := za9 a
 by_cases hlt : i < a.length
 ·have hx := List.getElem?_eq_getElem hlt
  have hbl := ha _ (List.getElem_mem hlt)
  have htk : a.take (i + 1) = a.take i ++ [a[i]] := by rw [List.take_add_one, hx]; rfl
  have hcn : countNL (a.take (i + 1)) = countNL (a.take i) + countNL [a[i]] := by rw [htk]; unfold countNL; rw [List.countP_append]
  have hle := zb5 (a.take i)
  rw [List.length_take] at hle
  generalize a[i] = c at *
  have hc : c.toNat = 32 ∨ c.toNat = 9 ∨ c.toNat = 10 := by
   unfold isBlank at hbl
   simp only [Bool.or_eq_true, decide_eq_true_eq] at hbl
   rcases hbl with (h | h) | h
   ·exact .inl h
   ·exact .inr (.inl h)
   ·exact .inr (.inr h)
  have hdec := zcl hx (by omega)
  generalize countNL (a.take i) = q at *
  by_cases h10 : c.toNat = 10
  ·have hone : countNL [c] = 1 := by simp [countNL, h10]
   have e1 : IntKind.wrap .i64 (((n + q : Nat) : Int) + 1) = ((n + (q + 1) : Nat) : Int) := by rw [wrapI64 (by omega) (by omega)]; omega
   rw [h10] at hdec
   refine ⟨.normal, ⟨1, [(0, .optr 0 0), (6, .optr 1 0)], [.rich [strV (bs r), int64 ((n + (q + 1) : Nat) : Int)], .iter (bs a) (i + 1)]⟩, ?_, .inl ⟨rfl, m - 1, by omega, i + 1, by omega, by rw [hcn, hone]; generalize n + (q + 1) = q2; simp -implicitDefEqProofs⟩⟩
   generalize n + (q + 1) = q2 at *
   generalize n + q = q1 at *
   simp -implicitDefEqProofs [x189L1, hsz, hlt, hdec, e1]
  ·have hone : countNL [c] = 0 := by simp [countNL, h10]
   have h10' : ¬ (c.toNat : Int) = 10 := by omega
   refine ⟨.normal, ⟨1, [(0, .optr 0 0), (6, .optr 1 0), (11, avb false)], [.rich [strV (bs r), int64 ((n + q : Nat) : Int)], .iter (bs a) (i + 1)]⟩, ?_, .inl ⟨rfl, m - 1, by omega, i + 1, by omega, by rw [hcn, hone, Nat.add_zero]; generalize n + q = q1; simp -implicitDefEqProofs⟩⟩
   generalize n + q = q1 at *
   clear hcn hone htk hx hbl
   generalize c.toNat = cn at *
   simp -implicitDefEqProofs [x189L1, hsz, hlt, hdec, h10, h10']
 ·have : i = a.length := by omega
  subst this
  rw [List.take_length]
  refine ⟨.exit 2, _, ?_, .inr ⟨by simp, rfl, rfl⟩⟩
  simp -implicitDefEqProofs [x189L1, hsz]
theorem zqm (h : code 188 = some x188) (h1 : code 190 = some x190) (h2 : code 191 = some x191) (h3 : code 798 = some x798) (h4 : code 725 = some x725) (l : List UInt8) (n : Nat) (hl : l.length ≤ 1000000) (hb : n + l.length ≤ 1000000000) :
  (hasPre [47, 47] (l.dropWhile isBlank) = true → ∃ s', den code ext x189L2 ⟨1, [(0, .optr 0 0)], scanM l (n : Nat)⟩ = some (.normal, s') ∧ s'.tidy [0] = ⟨1, [(0, .optr 0 0)], scanM ((l.dropWhile isBlank).dropWhile notEnd) ((n + countNL (l.takeWhile isBlank) : Nat) : Int)⟩) ∧
  (hasPre [47, 47] (l.dropWhile isBlank) = false → ∃ s', den code ext x189L2 ⟨1, [(0, .optr 0 0)], scanM l (n : Nat)⟩ = some (.ret, s') ∧ s' = ⟨1, [(0, .optr 0 0), (24, avb true)], scanM (l.dropWhile isBlank) ((n + countNL (l.takeWhile isBlank) : Nat) : Int) ++ [.iter (bs (l.takeWhile isBlank)) (l.takeWhile isBlank).length]⟩) := by
 have he := zde (ext := ext) h (za5 h1) l (n : Nat) hl
 have hlen := tw_len isBlank l
 have he2 := zde (ext := ext) h (zkp h2) (l.dropWhile isBlank) ((n + countNL (l.takeWhile isBlank) : Nat) : Int) (by omega)
 obtain ⟨e, s', l1, _, rfl, rfl⟩ := zhq (ext := ext) (code := code) (l.takeWhile isBlank) (l.dropWhile isBlank) (tw_all isBlank l) n (by omega)
  ⟨1, [(0, .optr 0 0), (6, .optr 1 0)], [.rich [strV (bs (l.dropWhile isBlank)), int64 (n : Nat)], .iter (bs (l.takeWhile isBlank)) 0]⟩ (by simp -implicitDefEqProofs)
 have hp := zmn (ext := ext) h3 h4 (l.dropWhile isBlank) [47, 47]
 have h47 : bs [47, 47] = ⟨#[47, 47]⟩ := rfl
 rw [h47] at hp
 unfold scanM at *
 unfold x189L2
 generalize (l.takeWhile isBlank).length = al at *
 generalize bs (l.takeWhile isBlank) = A at *
 generalize bs ((l.dropWhile isBlank).dropWhile notEnd) = D at *
 generalize bs ((l.dropWhile isBlank).takeWhile notEnd) = E at *
 generalize bs (l.dropWhile isBlank) = R at *
 generalize bs l = B at *
 generalize n + countNL (l.takeWhile isBlank) = q at *
 generalize hasPre [47, 47] (l.dropWhile isBlank) = b at *
 generalize x189L1 = L at *
 constructor
 ·rintro rfl
  refine ⟨⟨1, [(0, .optr 0 0)], [.rich [strV D, int64 (q : Nat)], .iter A al]⟩, ?_, by simp -implicitDefEqProofs⟩
  simp -implicitDefEqProofs [he, l1, hp, he2]
 ·rintro rfl
  refine ⟨_, ?_, rfl⟩
  simp -implicitDefEqProofs [he, l1, hp]
theorem zqn (h0 : code 189 = some x189) (h : code 188 = some x188) (h1 : code 190 = some x190) (h2 : code 191 = some x191) (h3 : code 798 = some x798) (h4 : code 725 = some x725) (l : List UInt8) (n : Nat) (hl : l.length ≤ 1000000) (hb : n + l.length ≤ 1000000000) :
  callW code ext 189 [.optr 0 0] (scanM l (n : Nat)) = some (.tup [], scanM (skipL l n).1 ((skipL l n).2 : Nat)) := by
 have loop : ∃ e s', den code ext (.loop [0] x189L2) ⟨1, [(0, .optr 0 0)], scanM l (n : Nat)⟩ = some (e, s') ∧ e ≠ .normal ∧
   (e = .ret ∧ ∃ A al, s' = ⟨1, [(0, .optr 0 0), (24, avb true)], scanM (skipL l n).1 ((skipL l n).2 : Nat) ++ [.iter A al]⟩) := by
  refine zh9 (fun m s => ∃ l' n', l'.length = m ∧ l'.length ≤ 1000000 ∧ n' + l'.length ≤ 1000000000 ∧ skipL l' n' = skipL l n ∧ s.tidy [0] = ⟨1, [(0, .optr 0 0)], scanM l' (n' : Nat)⟩) _ ?_ l.length _ ⟨l, n, rfl, hl, hb, rfl, by unfold scanM; simp -implicitDefEqProofs⟩
  rintro m s ⟨l', n', hm, hl', hb', hsk, hst⟩
  rw [hst]
  obtain ⟨r1, r2⟩ := zqm (ext := ext) h h1 h2 h3 h4 l' n' hl' hb'
  cases hp : hasPre [47, 47] (l'.dropWhile isBlank) with
  | true =>
   obtain ⟨s', g1, g2⟩ := r1 hp
   have hless := zkr hp
   have hc := zb5 (l'.takeWhile isBlank)
   have hw := tw_len isBlank l'
   have hw2 := zc6 notEnd (l'.dropWhile isBlank)
   refine ⟨.normal, s', g1, .inl ⟨rfl, _, by omega, _, _, rfl, by omega, by omega, ?_, g2⟩⟩
   rw [← hsk, zqi n' hp]
  | false =>
   obtain ⟨s', g1, g2⟩ := r2 hp
   refine ⟨.ret, s', g1, .inr ⟨by simp, rfl, bs (l'.takeWhile isBlank), (l'.takeWhile isBlank).length, ?_⟩⟩
   rw [← hsk, zqf n' hp]
   exact g2
 obtain ⟨e, s', l1, _, rfl, A, al, rfl⟩ := loop
 rw [zbi code ext h0]
 unfold x189 scanM at *
 generalize x189L2 = L at *
 generalize bs (skipL l n).1 = R at *
 generalize (skipL l n).2 = q at *
 generalize bs l = B at *
 simp -implicitDefEqProofs [l1]
end
end Go.EX


set_option linter.unusedVariables false
set_option linter.unusedSimpArgs false
namespace Go.EX
def dNil (used : Bool) : Mem := [.rich [bAddr used, nilS]]
def dOne (b : ByteArray) : Mem := [.rich [.optr 0 0, .osl 1 0 1 b.size none], .text (rowOfS b)]
def dTwo (b : ByteArray) : Mem := [.rich [.optr 0 0, .osl 2 0 1 b.size none], .dead, .text (rowOfS b)]
structure BufCode (code : Nat → Option XFun) (ext : Calls') : Prop where
 c673 : code 673 = some x673
 c672 : code 672 = some x672
 c669 : code 669 = some x669
 n674 : code 674 = none
 e674 : ∀ a m, ext 674 a m = extCheck 674 674 a m
 n670 : code 670 = none
 e670 : ∀ a m, ext 670 a m = extStr 670 670 a m
section
variable {code : Nat → Option XFun} {ext : Calls'}
theorem zch (c : BufCode code ext) (u : Bool) : callW code ext 674 [.optr 0 0] (dNil u) = some (.tup [], dNil true) := by
 rw [zbh code ext c.n674 (by decide), c.e674]
 cases u <;> rfl
theorem zci (c : BufCode code ext) (b : ByteArray) : callW code ext 674 [.optr 0 0] (dOne b) = some (.tup [], dOne b) := by
 rw [zbh code ext c.n674 (by decide), c.e674]
 rfl
theorem zdc (c : BufCode code ext) (u : Bool) : callW code ext 673 [.optr 0 0, strV .empty] (dNil u) = some (.tup [int64 0, .imm (.val .nilIface)], dNil true) := by
 have h := zch c u
 rw [zbi code ext c.c673]
 have e0 : elems (dNil true) 1 (strV .empty) = some (0, []) := rfl
 cases u <;> (simp only [dNil, bAddr] at h e0 ⊢; simp -implicitDefEqProofs [x673, h, exAppendS, elems, e0])
theorem zdb (c : BufCode code ext) (u : Bool) (x : ByteArray) (h0 : 0 < x.size) (hx : x.size ≤ 140737488355328) : callW code ext 673 [.optr 0 0, strV x] (dNil u) = some (.tup [int64 x.size, .imm (.val .nilIface)], dOne x) := by
 have h := zch c u
 rw [zbi code ext c.c673]
 have h1 : ¬ x.size = 0 := by omega
 have e0 : ∀ m, elems m 1 (strV x) = some (x.size, rowOfS x) := fun m => rfl
 cases u <;> (simp only [dNil, bAddr, dOne] at h ⊢; simp -implicitDefEqProofs [x673, h, exAppendS, e0, h1, hx])
theorem zdd (c : BufCode code ext) (b x : ByteArray) (h0 : 0 < b.size) (hx : b.size + x.size ≤ 140737488355328) : callW code ext 673 [.optr 0 0, strV x] (dOne b) = some (.tup [int64 x.size, .imm (.val .nilIface)], dTwo (b ++ x)) := by
 have h := zci c b
 rw [zbi code ext c.c673]
 have e0 : ∀ m, elems m 1 (strV x) = some (x.size, rowOfS x) := fun m => rfl
 have e1 := zof b
 simp only [dTwo, dOne, zqd, zoe] at h ⊢
 simp -implicitDefEqProofs [x673, h, exAppendS, e0, e1, h0, hx]
theorem zok (c : UInt8) : rowOfS (bs [c]) = [.val (.int .u8 c.toNat)] := rfl
theorem zcf (c : BufCode code ext) (u : Bool) (q : UInt8) : callW code ext 672 [.optr 0 0, u8V q] (dNil u) = some (.imm (.val .nilIface), dOne (bs [q])) := by
 have h := zch c u
 rw [zbi code ext c.c672]
 have hr := zok q
 have hz : (bs [q]).size = 1 := rfl
 cases u <;> (simp only [dNil, bAddr, dOne, hr, hz] at h ⊢; simp -implicitDefEqProofs [x672, h, exAppendS, elems])
theorem zcg (c : BufCode code ext) (b : ByteArray) (q : UInt8) (h0 : 0 < b.size) (hx : b.size + 1 ≤ 140737488355328) : callW code ext 672 [.optr 0 0, u8V q] (dOne b) = some (.imm (.val .nilIface), dTwo (b ++ bs [q])) := by
 have h := zci c b
 rw [zbi code ext c.c672]
 have hr := zok q
 have hz : (bs [q]).size = 1 := rfl
 have e1 := zof b
 simp only [dTwo, dOne, zqd, zoe, hr, hz] at h ⊢
 simp -implicitDefEqProofs [x672, h, exAppendS, elems, e1, h0, hx]
theorem zcz (c : BufCode code ext) (u : Bool) : callW code ext 669 [.optr 0 0] (dNil u) = some (int64 0, dNil u) := by
 rw [zbi code ext c.c669]
 cases u <;> (simp only [dNil, bAddr]; simp -implicitDefEqProofs [x669])
def dDead (n : Nat) : Mem := [.rich [.optr 0 0, .osl 1 0 1 n none], .dead]
theorem zcy (c : BufCode code ext) (n : Nat) : callW code ext 669 [.optr 0 0] (dDead n) = some (int64 n, dDead n) := by
 rw [zbi code ext c.c669]
 unfold dDead
 simp -implicitDefEqProofs [x669]
theorem zda (c : BufCode code ext) (b : ByteArray) (hb : 0 < b.size) : callW code ext 670 [.optr 0 0] (dOne b) = some (strV b, [.rich [.optr 0 0, .osl 1 0 1 b.size none], .dead, .dead]) := by
 rw [zbh code ext c.n670 (by decide), c.e670]
 have h1 : u8s (rowOfS b) = some (b.data.toList.map fun c => (c.toNat : Int)) := zsd _
 have h2 := zof b
 have h3 : ((b.data.toList.map fun c => (c.toNat : Int)).all fun n => decide (0 ≤ n) && decide (n < 256)) = true := by
  rw [List.all_eq_true]
  intro n hn
  rw [List.mem_map] at hn
  obtain ⟨c, _, rfl⟩ := hn
  have := c.toNat_lt
  simp
  omega
 simp only [extStr, dOne, if_true, List.getElem?_cons_zero, List.getElem?_cons_succ, Nat.zero_add, h1, h2, h3, hb, and_self, if_true, zbd]
 rfl
theorem zc9 (c : BufCode code ext) (u : Bool) : callW code ext 670 [.optr 0 0] (dNil u) = some (strV .empty, dNil u) := by
 rw [zbh code ext c.n670 (by decide), c.e670]
 cases u <;> rfl
end
def stepT : List UInt8 → Option (Option UInt8)
 | 34 :: _ => some none
 | 92 :: 92 :: _ => some (some 92)
 | 92 :: 34 :: _ => some (some 34)
 | 92 :: 110 :: _ => some (some 10)
 | _ => none
theorem zqz {r : List UInt8} {c : UInt8} (h : stepT r = some (some c)) : ∃ d q, r = 92 :: d :: q ∧ ((d = 92 ∧ c = 92) ∨ (d = 34 ∧ c = 34) ∨ (d = 110 ∧ c = 10)) := by
 unfold stepT at h
 split at h <;> cases h
 ·exact ⟨_, _, rfl, .inl ⟨rfl, rfl⟩⟩
 ·exact ⟨_, _, rfl, .inr (.inl ⟨rfl, rfl⟩)⟩
 ·exact ⟨_, _, rfl, .inr (.inr ⟨rfl, rfl⟩)⟩
theorem zqx {l : List UInt8} {c : UInt8} (h : stepT (l.dropWhile isPlain) = some (some c)) : ((l.dropWhile isPlain).drop 2).length < l.length := by
 obtain ⟨d, q, hr, _⟩ := zqz h
 have := zc6 isPlain l
 rw [hr] at this ⊢
 simp at this ⊢
 omega
def textL (acc l : List UInt8) : Option (List UInt8 × List UInt8) :=
 match h : stepT (l.dropWhile isPlain) with
 | some none => some (acc ++ l.takeWhile isPlain, (l.dropWhile isPlain).drop 1)
 | some (some c) => textL (acc ++ l.takeWhile isPlain ++ [c]) ((l.dropWhile isPlain).drop 2)
 | none => none
termination_by l.length
decreasing_by exact zqx h
theorem zrg {l : List UInt8} (acc : List UInt8) (h : stepT (l.dropWhile isPlain) = some none) : textL acc l = some (acc ++ l.takeWhile isPlain, (l.dropWhile isPlain).drop 1) := by
 unfold textL
 split <;> simp_all
theorem zrj {l : List UInt8} (acc : List UInt8) {c : UInt8} (h : stepT (l.dropWhile isPlain) = some (some c)) : textL acc l = textL (acc ++ l.takeWhile isPlain ++ [c]) ((l.dropWhile isPlain).drop 2) := by
 conv => lhs; unfold textL
 split <;> simp_all
theorem zre {l : List UInt8} (acc : List UInt8) (h : stepT (l.dropWhile isPlain) = none) : textL acc l = none := by
 unfold textL
 split <;> simp_all
end Go.EX

