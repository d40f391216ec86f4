import Derived.Test.YtbomedbbgfcncaaDoorC4b
import Derived.Test.YtbomedbbgfcncaaDoorL4
import Derived.Test.YtbomedbbgfcncaaDoorK4
import Derived.Test.YtbomedbbgfcncaaDoorBld2
set_option linter.unusedVariables false
set_option linter.unusedSimpArgs false
namespace Go.EX
abbrev strV (b : ByteArray) : AV := .imm (.val (.string b))
structure TextCode (code : Nat → Option XFun) (ext : Calls') : Prop where
  c673 : code 673 = some x673
  c669 : code 669 = some x669
  c244 : code 244 = some x244
  n674 : code 674 = none
  e674 : ∀ a m, ext 674 a m = extCheck 674 674 a m
  n670 : code 670 = none
  e670 : ∀ a m, ext 670 a m = extStr 670 670 a m
  c785 : code 785 = some x785
  c786 : code 786 = some x786
  c709 : code 709 = some x709
  n708 : code 708 = none
  e708 : ∀ a m, ext 708 a m = extItoa 708 708 a m
section
variable {code : Nat → Option XFun} {ext : Calls'}
theorem rowS_len (b : ByteArray) : (rowOfS b).length = b.size := by simp [rowOfS]
theorem rowS_append (a b : ByteArray) : rowOfS (a ++ b) = rowOfS a ++ rowOfS b := by
  simp [rowOfS, ByteArray.data_append]
theorem size_append' (a b : ByteArray) : (a ++ b).size = a.size + b.size := ByteArray.size_append
theorem empty_of {b : ByteArray} (h : b.size = 0) : b = .empty := by
  cases b with
  | mk d =>
    have : d.size = 0 := h
    have : d = #[] := Array.eq_empty_of_size_eq_zero this
    subst this; rfl
def bAddr : Bool → AV
  | true => .optr 0 0
  | false => .seat 0 0
def bNil (used : Bool) (sv : IV) : Mem := [.rich [bAddr used, nilS, .imm sv]]
def bOne (sv : IV) (b : ByteArray) : Mem := [.rich [.optr 0 0, .osl 1 0 1 b.size none, .imm sv], .text (rowOfS b)]
def bTwo (sv : IV) (b : ByteArray) : Mem := [.rich [.optr 0 0, .osl 2 0 1 b.size none, .imm sv], .dead, .text (rowOfS b)]
theorem check_nil (c : TextCode code ext) (u : Bool) (sv : IV) : callW code ext 674 [.optr 0 0] (bNil u sv) = some (.tup [], bNil true sv) := by
  rw [callW_ext code ext c.n674 (by decide), c.e674]
  cases u <;> rfl
theorem check_one (c : TextCode code ext) (sv : IV) (b : ByteArray) : callW code ext 674 [.optr 0 0] (bOne sv b) = some (.tup [], bOne sv b) := by
  rw [callW_ext code ext c.n674 (by decide), c.e674]
  rfl
theorem write_none (c : TextCode code ext) (u : Bool) (sv : IV) : callW code ext 673 [.optr 0 0, strV .empty] (bNil u sv) = some (.tup [int64 0, .imm (.val .nilIface)], bNil true sv) := by
  have h := check_nil c u sv
  rw [callW_fun code ext c.c673]
  have e0 : elems (bNil true sv) 1 (strV .empty) = some (0, []) := rfl
  cases u <;> (simp only [bNil, bAddr] at h e0 ⊢; simp -implicitDefEqProofs [x673, h, exAppendS, elems, e0])
theorem write_nil (c : TextCode code ext) (u : Bool) (sv : IV) (x : ByteArray) (h0 : 0 < x.size) (hx : x.size ≤ 140737488355328) : callW code ext 673 [.optr 0 0, strV x] (bNil u sv) = some (.tup [int64 x.size, .imm (.val .nilIface)], bOne sv x) := by
  have h := check_nil c u sv
  rw [callW_fun code ext c.c673]
  have h1 : ¬ x.size = 0 := by omega
  have e0 : ∀ m, elems m 1 (strV x) = some (x.size, rowOfS x) := fun m => rfl
  cases u <;> (simp only [bNil, bAddr, bOne] at h ⊢; simp -implicitDefEqProofs [x673, h, exAppendS, e0, h1, hx])
theorem write_one (c : TextCode code ext) (sv : IV) (b x : ByteArray) (h0 : 0 < b.size) (hx : b.size + x.size ≤ 140737488355328) : callW code ext 673 [.optr 0 0, strV x] (bOne sv b) = some (.tup [int64 x.size, .imm (.val .nilIface)], bTwo sv (b ++ x)) := by
  have h := check_one c sv b
  rw [callW_fun code ext c.c673]
  have e0 : ∀ m, elems m 1 (strV x) = some (x.size, rowOfS x) := fun m => rfl
  have e1 := rowS_len b
  simp only [bTwo, bOne, size_append', rowS_append] at h ⊢
  simp -implicitDefEqProofs [x673, h, exAppendS, e0, e1, h0, hx]
theorem len_nil (c : TextCode code ext) (u : Bool) (sv : IV) : callW code ext 669 [.optr 0 0] (bNil u sv) = some (int64 0, bNil u sv) := by
  rw [callW_fun code ext c.c669]
  cases u <;> (simp only [bNil, bAddr]; simp -implicitDefEqProofs [x669])
theorem len_one (c : TextCode code ext) (sv : IV) (b : ByteArray) : callW code ext 669 [.optr 0 0] (bOne sv b) = some (int64 b.size, bOne sv b) := by
  rw [callW_fun code ext c.c669]
  simp only [bOne]
  simp -implicitDefEqProofs [x669]
theorem long_nil (c : TextCode code ext) (u : Bool) (sv : IV) : callW code ext 244 [.optr 0 0] (bNil u sv) = some (avb false, bNil u sv) := by
  have h := len_nil c u sv
  rw [callW_fun code ext c.c244]
  cases u <;> (simp only [bNil, bAddr] at h ⊢; simp -implicitDefEqProofs [x244, h])
theorem long_one (c : TextCode code ext) (sv : IV) (b : ByteArray) : callW code ext 244 [.optr 0 0] (bOne sv b) = some (avb (decide (4096 < b.size)), bOne sv b) := by
  have h := len_one c sv b
  rw [callW_fun code ext c.c244]
  simp only [bOne] at h ⊢
  simp -implicitDefEqProofs [x244, h]
  omega
end
end Go.EX

