import Derived.Test.YtgidfebccdfjgaaDoorH1c
set_option linter.unusedVariables false
set_option linter.unusedSimpArgs false
namespace Go.EX
section
variable {code : Nat → Option XFun} {ext : Calls'}
theorem copies_u64 (n : Nat) : copies n [u64v 0] = urow (List.replicate n 0) := by
  induction n with
  | zero => rfl
  | succ n ih => simp only [copies, ih, urow, List.replicate_succ, List.map_cons, List.singleton_append]
theorem copies_u64' (n : Nat) : copies n [IV.val (Value.int .u64 0)] = urow (List.replicate n 0) := copies_u64 n
theorem new_ok (h : code 567 = some x567) (n : Nat) (h1 : 1 ≤ n) (h2 : n ≤ 1048576) :
    callW code ext 567 [int64 n] [] = some (.tup [.optr 0 0, int64 0], hMem (List.replicate n 0) (List.replicate (n / 64 + 1) 0) 0) := by
  rw [callW_fun code ext h]
  obtain ⟨q, r, hq, hr, hr64, e1, e2⟩ := place_bin (i := n) (by omega)
  have e3 : ¬ ((n : Int) < 1) := by omega
  have e4 : ¬ ((n : Int) > 1048576) := by omega
  have e4' : ¬ (1048576 < (n : Int)) := by omega
  have e5 : (0 : Int) ≤ n := by omega
  have e6 : 8 * (n : Int) ≤ 281474976710656 := by omega
  have e7 : (n : Int) ≤ 9223372036854775807 := by omega
  have e8 : IntKind.wrap .i64 ((q : Int) + 1) = (q : Int) + 1 := wrapI64 (by omega) (by omega)
  have f5 : (0 : Int) ≤ (q : Int) + 1 := by omega
  have f6 : 8 * ((q : Int) + 1) ≤ 281474976710656 := by omega
  have f7 : (q : Int) + 1 ≤ 9223372036854775807 := by omega
  have f8 : ((q : Int) + 1).toNat = q + 1 := by omega
  have g1 := copies_u64' n
  have g2 := copies_u64' (q + 1)
  rw [hq]
  simp -implicitDefEqProofs [-intBin, b_add, b_lss, b_gtr, x567, e1, e2, e3, e4, e4', e5, e6, e7, e8, f5, f6, f7, f8, g1, g2]
theorem new_no (h : code 567 = some x567) (n : Int) (h1 : n < 1 ∨ 1048576 < n) : callW code ext 567 [int64 n] [] = some (.tup [.imm (.val (.pointer none)), int64 1], []) := by
  rw [callW_fun code ext h]
  by_cases h0 : n < 1
  · simp -implicitDefEqProofs [-intBin, b_add, b_lss, b_gtr, x567, h0]
  · have h2 : 1048576 < n := h1.resolve_left h0
    simp -implicitDefEqProofs [-intBin, b_add, b_lss, b_gtr, x567, h0, h2]
end
end Go.EX

