import Derived.Test.YtgidfebccdfjgaaDoorH0
set_option linter.unusedVariables false
set_option linter.unusedSimpArgs false
namespace Go.EX
section
variable {code : Nat → Option XFun} {ext : Calls'}
theorem is_yes (h : code 183 = some x183) (W B : List Nat) (e i b : Nat) (hi : i < e) (hb : B[i / 64]? = some b) (hlt : b < 18446744073709551616) (hbd : e ≤ 1000000000) :
    callW code ext 183 [.optr 0 0, int64 i] (hMem W B e) = some (avb (b.testBit (i % 64)), hMem W B e) := by
  rw [callW_fun code ext h]
  have h0 : (0 : Int) ≤ i := by omega
  have h1 : (i : Int) < e := by omega
  obtain ⟨q, r, hq, hr, hr64, e1, e2⟩ := place_bin (i := i) (by omega)
  rw [hq] at hb
  rw [hr]
  have h4 := urow_get hb
  have h5 : q < B.length := (List.getElem?_eq_some_iff.1 hb).1
  obtain ⟨c, g, h7, h8, h9⟩ := bit_bin b r hlt hr64
  simp -implicitDefEqProofs [-intBin, -shiftBin, b_geq, b_lss, b_eql, x183, h0, h1, e1, e2, h4, h5, h7, h8, h9]
end
end Go.EX

