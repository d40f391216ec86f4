import Derived.Test.YtnmhohfmonlfoaaDoorP2
set_option linter.unusedVariables false
set_option linter.unusedSimpArgs false
namespace Go.EX
theorem wrap64 (x : Int) : IntKind.wrap .i64 x = (x + 9223372036854775808) % 18446744073709551616 - 9223372036854775808 := by
  simp only [IntKind.wrap, IntKind.signed, IntKind.bits]
  simp
  omega
theorem wrap_cong {x y : Int} (h : x % 18446744073709551616 = y % 18446744073709551616) : IntKind.wrap .i64 x = IntKind.wrap .i64 y := by
  rw [wrap64, wrap64, ← Int.emod_add_emod, h, Int.emod_add_emod]
theorem wrap_mod (x : Int) : IntKind.wrap .i64 x % 18446744073709551616 = x % 18446744073709551616 := by
  rw [wrap64]; omega
theorem wrap_wrapAdd (x y : Int) : IntKind.wrap .i64 (IntKind.wrap .i64 x + y) = IntKind.wrap .i64 (x + y) :=
  wrap_cong (by rw [← Int.emod_add_emod, wrap_mod, Int.emod_add_emod])
theorem wrap_wrapSub (x y : Int) : IntKind.wrap .i64 (IntKind.wrap .i64 x - y) = IntKind.wrap .i64 (x - y) := by
  rw [Int.sub_eq_add_neg, wrap_wrapAdd, ← Int.sub_eq_add_neg]
theorem wrap_wrapMul (x y : Int) : IntKind.wrap .i64 (IntKind.wrap .i64 x * y) = IntKind.wrap .i64 (x * y) :=
  wrap_cong (by rw [Int.mul_emod, wrap_mod, ← Int.mul_emod])
theorem sum_back {a b : Int} (ha : -9223372036854775808 ≤ a ∧ a ≤ 9223372036854775807) : IntKind.wrap .i64 (IntKind.wrap .i64 (a + b) - b) = a := by
  rw [wrap_wrapSub, Int.add_sub_cancel, wrapI64 ha.1 ha.2]
theorem order_one (a b : Int) : IntKind.wrap .i64 ((if a < b then 1 else 0) + (if b ≤ a then 1 else 0)) = 1 := by
  by_cases h : a < b
  · rw [if_pos h, if_neg (by omega)]; rfl
  · rw [if_neg h, if_pos (by omega)]; rfl
theorem parts_back {a b : Int} (ha : -9223372036854775808 ≤ a ∧ a ≤ 9223372036854775807) : IntKind.wrap .i64 (IntKind.wrap .i64 ((if b = -1 then IntKind.wrap .i64 (0 - a) else IntKind.wrap .i64 (a.tdiv b)) * b) + (if b = -1 then 0 else a.tmod b)) = a := by
  by_cases h : b = -1
  · rw [if_pos h, if_pos h, h, wrap_wrapAdd, Int.add_zero, wrap_wrapMul]
    have : (0 - a) * (-1 : Int) = a := by omega
    rw [this, wrapI64 ha.1 ha.2]
  · rw [if_neg h, if_neg h, wrap_wrapMul, wrap_wrapAdd, Int.tdiv_mul_add_tmod, wrapI64 ha.1 ha.2]
theorem val_whole (n : Int) : callW code11 noE 491 [int64 n] [] = some (aval 2 n, []) := by
  rw [callW_fun code11 noE (show code11 491 = some x491 from rfl)]
  simp -implicitDefEqProofs [x491]
set_option maxHeartbeats 1000000 in
theorem primWhole_ok (a b : Int) (ha : -9223372036854775808 ≤ a ∧ a ≤ 9223372036854775807) (hb : -9223372036854775808 ≤ b ∧ b ≤ 9223372036854775807) : callW code11 noE 485 [int64 a, int64 b] [] = some (avb true, []) := by
  have e1 := primBin_whole 1 a b (by decide) (by decide) (by decide) (by decide)
  have e2 := primBin_whole 2 (IntKind.wrap .i64 (a + b)) b (by decide) (by decide) (by decide) (by decide)
  have e6 := primBin_whole 6 a b (by decide) (by decide) (by decide) (by decide)
  have e7 := primBin_whole 7 b a (by decide) (by decide) (by decide) (by decide)
  have e4 := primBin_whole 4 a b (by decide) (by decide) (by decide) (by decide)
  have e5 := primBin_whole 5 a b (by decide) (by decide) (by decide) (by decide)
  have s1 := sum_back (b := b) ha
  have s2 := order_one a b
  have s3 := parts_back (b := b) ha
  rw [callW_fun code11 noE (show code11 485 = some x485 from rfl)]
  by_cases h0 : b = 0
  · subst h0
    simp [wholeR, -intBin] at e1 e2 e4 e5 e6 e7 s1 s2
    simp -implicitDefEqProofs [x485, val_whole, lives11, e1, e2, e4, e5, e6, e7, s1, s2]
  · simp [wholeR, h0] at e1 e2 e4 e5 e6 e7 s1 s2 s3
    have e3 := primBin_whole 3 (if b = -1 then IntKind.wrap .i64 (0 - a) else IntKind.wrap .i64 (a.tdiv b)) b (by decide) (by decide) (by decide) (by decide)
    have e8 := primBin_whole 1 (IntKind.wrap .i64 ((if b = -1 then IntKind.wrap .i64 (0 - a) else IntKind.wrap .i64 (a.tdiv b)) * b)) (if b = -1 then 0 else a.tmod b) (by decide) (by decide) (by decide) (by decide)
    simp [wholeR] at e3 e8
    simp -implicitDefEqProofs [x485, val_whole, lives11, h0, e1, e2, e3, e4, e5, e6, e7, e8, s1, s2, s3]
end Go.EX

