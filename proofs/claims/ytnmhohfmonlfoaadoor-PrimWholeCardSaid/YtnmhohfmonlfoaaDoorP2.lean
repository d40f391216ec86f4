import Derived.Test.YtnmhohfmonlfoaaDoorP1b
import Derived.Test.YtnmhohfmonlfoaaDoorCc11
set_option linter.unusedVariables false
set_option linter.unusedSimpArgs false
namespace Go.EX
theorem wholeCode11 : WholeCode code11 := ⟨rfl, rfl, rfl, rfl, rfl, rfl, rfl, rfl, rfl⟩
abbrev noE : Calls' := fun _ _ _ => none
abbrev plainM : AObj := .rich [nilS, int64 1152921504606846976, int64 0]
theorem bin_whole (op a b : Int) (h8 : op ≠ 8) (h9 : op ≠ 9) : callW code11 noE 210 [.optr 0 0, i8v op, aval 2 a, aval 2 b] [plainM] = some (.agg [i8v (wholeR op a b).1, int64 (wholeR op a b).2.1, strv (wholeR op a b).2.2, avb false], [plainM]) := by
  have h := whole_spec (ext := noE) wholeCode11 op a b
  rw [callW_fun code11 noE (show code11 210 = some x210 from rfl)]
  simp -implicitDefEqProofs [x210, h, h8, h9]
theorem cells_two (a b : Int) : callW code11 noE 580 [.imm (.slice [.val (.int .u8 2), .val (.int .i64 a), .val (.int .u8 2), .val (.int .i64 b)] 0 2 (some 2))] [] = some (avb false, []) := (callW_some code11 noE).2 ⟨20, by kernel_rfl⟩
theorem any_two (a b : Int) : callW code11 noE 749 [.osl 0 0 2 2 (some 2), .clo 641 [.optr 1 0]] [.flat [.val (.int .u8 2), .val (.int .i64 a), .val (.int .u8 2), .val (.int .i64 b)] false, .rich [nilS]] = some (avb false, [.flat [.val (.int .u8 2), .val (.int .i64 a), .val (.int .u8 2), .val (.int .i64 b)] false, .rich [nilS]]) := (callW_some code11 noE).2 ⟨40, by kernel_rfl⟩
theorem twin_nil : callW code11 noE 643 [nilS] [] = some (nilS, []) := (callW_some code11 noE).2 ⟨20, by kernel_rfl⟩
theorem sizes_nil : callW code11 noE 642 [nilS] [] = some (nilS, []) := (callW_some code11 noE).2 ⟨20, by kernel_rfl⟩
theorem asked_nil : callW code11 noE 639 [nilS, nilS] [] = some (int64 0, []) := (callW_some code11 noE).2 ⟨20, by kernel_rfl⟩
theorem do_whole (op a b : Int) (h0 : 0 ≤ op) (h255 : op ≤ 255) (h8 : op ≠ 8) (h9 : op ≠ 9) :
    callW code11 noE 206 [.optr 0 0, .agg [i8v 14, int64 op, .osl 1 0 2 2 (some 2), nilS]] [plainM, .flat [.val (.int .u8 2), .val (.int .i64 a), .val (.int .u8 2), .val (.int .i64 b)] false]
      = some (.agg [i8v (wholeR op a b).1, int64 (wholeR op a b).2.1, strv (wholeR op a b).2.2, avb false], [plainM, .flat [.val (.int .u8 2), .val (.int .i64 a), .val (.int .u8 2), .val (.int .i64 b)] false]) := by
  have h := bin_whole op a b h8 h9
  have hc := cells_two a b
  have hw : IntKind.wrap .u8 op = op := wrapU8 h0 h255
  rw [callW_fun code11 noE (show code11 206 = some x206 from rfl)]
  simp -implicitDefEqProofs [x206, h, hc, hw]
theorem prim_whole (op a b : Int) (h0 : 0 ≤ op) (h255 : op ≤ 255) (h8 : op ≠ 8) (h9 : op ≠ 9) :
    callW code11 noE 640 [nilS, i8v 14, int64 op, .osl 0 0 2 2 (some 2)] [.flat [.val (.int .u8 2), .val (.int .i64 a), .val (.int .u8 2), .val (.int .i64 b)] false]
      = some (.agg [nilS, i8v (wholeR op a b).1, int64 (wholeR op a b).2.1, strv (wholeR op a b).2.2, int64 0], [.flat [.val (.int .u8 2), .val (.int .i64 a), .val (.int .u8 2), .val (.int .i64 b)] false]) := by
  have h := do_whole op a b h0 h255 h8 h9
  have hc := any_two a b
  rw [callW_fun code11 noE (show code11 640 = some x640 from rfl)]
  simp -implicitDefEqProofs [x640, h, hc, twin_nil, sizes_nil, asked_nil]
theorem primBin_whole (op a b : Int) (h0 : 0 ≤ op) (h255 : op ≤ 255) (h8 : op ≠ 8) (h9 : op ≠ 9) :
    callW code11 noE 627 [nilS, i8v op, aval 2 a, aval 2 b] [] = some (.agg [nilS, i8v (wholeR op a b).1, int64 (wholeR op a b).2.1, strv (wholeR op a b).2.2, int64 0], []) := by
  have h := prim_whole op a b h0 h255 h8 h9
  have hw : IntKind.wrap .i64 op = op := wrapI64 (by omega) (by omega)
  rw [callW_fun code11 noE (show code11 627 = some x627 from rfl)]
  simp -implicitDefEqProofs [x627, h, hw]
end Go.EX

