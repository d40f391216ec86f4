import Derived.Test.YtgidfebccdfjgaaDoorH1
set_option linter.unusedVariables false
set_option linter.unusedSimpArgs false
namespace Go.EX
section
variable {code : Nat → Option XFun} {ext : Calls'}
theorem gone_spec (h : code 182 = some x182) (W B : List Nat) (e : Nat) (hW : 1 ≤ W.length) : callW code ext 182 [.optr 0 0] (hMem W B e) = some (avb false, hMem W B e) := by
  rw [callW_fun code ext h]
  have h1 : ¬ ((W.length : Int) = 0) := by omega
  have h2 : W ≠ [] := by rintro rfl; simp at hW
  simp -implicitDefEqProofs [x182, h1, h2]
theorem used_spec (h : code 176 = some x176) (W B : List Nat) (e : Nat) : callW code ext 176 [.optr 0 0] (hMem W B e) = some (int64 e, hMem W B e) := by
  rw [callW_fun code ext h]
  simp -implicitDefEqProofs [x176]
theorem size_bin (w : Nat) : shiftBin .shr .u64 w 8 = some (.int .u64 ((w / 256 : Nat) : Int)) := shr_bin w 8 (by omega)
theorem size_spec (h : code 186 = some x186) (W B : List Nat) (e i w n : Nat) (hw : W[i]? = some w) (hn : w / 256 = n) (hlt : w < 18446744073709551616) :
    callW code ext 186 [.optr 0 0, int64 i] (hMem W B e) = some (int64 n, hMem W B e) := by
  rw [callW_fun code ext h]
  have h1 := urow_get hw
  have h2 : (i : Int) < W.length := by have := (List.getElem?_eq_some_iff.1 hw).1; omega
  have h3 := size_bin w
  rw [hn] at h3
  have h4 : IntKind.wrap .i64 (n : Int) = n := wrapI64 (by omega) (by omega)
  have h5 : i < W.length := by omega
  simp -implicitDefEqProofs [-shiftBin, x186, h1, h2, h3, h4, h5]
abbrev ownSl (W : List Nat) (i n : Nat) : AV := .osl 1 (i + 1) 1 n (some (W.length - (i + 1)))
theorem own_spec (h : code 186 = some x186) (h' : code 185 = some x185) (W B : List Nat) (e i w n : Nat) (hw : W[i]? = some w) (hn : w / 256 = n) (hlt : w < 18446744073709551616) (hi : i + 1 + n ≤ W.length) (hbd : W.length ≤ 1048576) :
    callW code ext 185 [.optr 0 0, int64 i] (hMem W B e) = some (ownSl W i n, hMem W B e) := by
  have h1 := size_spec (ext := ext) h W B e i w n hw hn hlt
  rw [callW_fun code ext h']
  have e1 : IntKind.wrap .i64 ((i : Int) + 1) = (i : Int) + 1 := wrapI64 (by omega) (by omega)
  have e2 : IntKind.wrap .i64 ((i : Int) + 1 + n) = (i : Int) + 1 + n := wrapI64 (by omega) (by omega)
  have e3 : (i : Int) + 1 ≤ (i : Int) + 1 + n := by omega
  have e4 : (i : Int) + 1 + n ≤ W.length := by omega
  have e5 : (0 : Int) ≤ (i : Int) + 1 := by omega
  have e6 : ((i : Int) + 1).toNat = i + 1 := by omega
  have e7 : ((i : Int) + 1 + n).toNat = i + 1 + n := by omega
  have e8 : i + 1 + n - (i + 1) = n := by omega
  simp -implicitDefEqProofs [x185, h1, e1, e2, e3, e4, e5, e6, e7, e8, exSlice, bounds]
end
end Go.EX

