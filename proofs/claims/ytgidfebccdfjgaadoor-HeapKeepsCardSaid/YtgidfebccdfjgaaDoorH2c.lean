import Derived.Test.YtgidfebccdfjgaaDoorH2b
set_option linter.unusedVariables false
set_option linter.unusedSimpArgs false
namespace Go.EX
section
variable {code : Nat → Option XFun} {ext : Calls'}
theorem alloc_full (c : Smalls code) (h : code 169 = some x169) {W B : List Nat} {e : Nat} {k n : Int} (hk : 3 ≤ k) (hk2 : k ≤ 8) (hn0 : 0 ≤ n) (hn : (W.length : Int) - e ≤ n) (he : e ≤ W.length) (hW : 1 ≤ W.length) (hbd : W.length ≤ 1048576) :
    callW code ext 169 [.optr 0 0, .imm (.val (.int .u8 k)), int64 n] (hMem W B e) = some (.tup [int64 0, int64 7], hMem W B e) := by
  have hg := gone_spec (ext := ext) c.c182 W B e hW
  have t1 : ¬ (k < 3) := by omega
  have t2 : ¬ (k > 8) := by omega
  have t2' : ¬ (8 < k) := by omega
  have t3 : ¬ (n < 0) := by omega
  have t4 : IntKind.wrap .i64 ((W.length : Int) - e) = (W.length : Int) - e := wrapI64 (by omega) (by omega)
  have t5 : (W.length : Int) ≤ n + e := by omega
  rw [callW_fun code ext h]
  simp -implicitDefEqProofs [-intBin, -shiftBin, b_add, b_sub, b_lss, b_gtr, b_geq, x169, hg, t1, t2, t2', t3, t4, hn, t5]
end
end Go.EX

