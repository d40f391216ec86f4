import Derived.Test.YtgidfebccdfjgaaDoorH0
import Derived.Lib.TrailingZeros
import Derived.Lib.ItoaNum
set_option linter.unusedVariables false
set_option linter.unusedSimpArgs false
namespace Go.EX
def NoBits (B : List Nat) (lo hi : Nat) : Prop := ∀ j, lo ≤ j → j < hi → bitAt B j = false
theorem bitAt_of {B : List Nat} {q b r : Nat} (hb : B[q]? = some b) (hr : r < 64) : bitAt B (64 * q + r) = b.testBit r := by
  unfold bitAt
  have h1 : (64 * q + r) / 64 = q := by omega
  have h2 : (64 * q + r) % 64 = r := by omega
  rw [h1, h2, hb]; rfl
theorem testBit_mul (b k j : Nat) : (b * 2 ^ k).testBit j = (decide (k ≤ j) && b.testBit (j - k)) := by
  rw [← Nat.shiftLeft_eq, Nat.testBit_shiftLeft]
theorem zero_testBit {x : Nat} (h : x = 0) (j : Nat) : x.testBit j = false := by rw [h]; exact Nat.zero_testBit j
theorem down_none {B : List Nat} {q r b : Nat} (hb : B[q]? = some b) (hr : r < 64) (h0 : (b * 2 ^ (63 - r)) % 18446744073709551616 = 0) : NoBits B (64 * q) (64 * q + r + 1) := by
  intro j h1 h2
  obtain ⟨s, rfl⟩ : ∃ s, j = 64 * q + s := ⟨j - 64 * q, by omega⟩
  rw [bitAt_of hb (by omega)]
  have := zero_testBit h0 (s + (63 - r))
  rw [show 18446744073709551616 = 2 ^ 64 from rfl, Nat.testBit_mod_two_pow, testBit_mul] at this
  have e : s + (63 - r) - (63 - r) = s := by omega
  have e2 : 63 - r ≤ s + (63 - r) := by omega
  have e3 : s + (63 - r) < 64 := by omega
  simpa [e, e2, e3] using this
theorem down_some {B : List Nat} {q r b x : Nat} (hb : B[q]? = some b) (hr : r < 64) (hx : (b * 2 ^ (63 - r)) % 18446744073709551616 = x) (h0 : x ≠ 0) :
    1 ≤ Lib.bitLen x ∧ Lib.bitLen x ≤ 64 ∧ ∃ s, s ≤ r ∧ 64 + s = r + Lib.bitLen x ∧ bitAt B (64 * q + s) = true ∧ NoBits B (64 * q + s + 1) (64 * q + r + 1) := by
  have hlt : x < 2 ^ 64 := by rw [← hx]; exact Nat.mod_lt _ (by decide)
  obtain ⟨h1, h2, h3⟩ := Lib.bitLenAux_bounds 64 x hlt h0
  have hle := Lib.bitLen_le x 64 (Nat.le_refl _) hlt
  change 1 ≤ Lib.bitLen x at h1
  change 2 ^ (Lib.bitLen x - 1) ≤ x at h2
  change x < 2 ^ Lib.bitLen x at h3
  generalize Lib.bitLen x = L at *
  obtain ⟨t, rfl⟩ : ∃ t, L = t + 1 := ⟨L - 1, by omega⟩
  simp only [Nat.add_sub_cancel] at h2
  have hbit : ∀ j, j < 64 → x.testBit j = (decide (63 - r ≤ j) && b.testBit (j - (63 - r))) := by
    intro j hj
    rw [← hx, show 18446744073709551616 = 2 ^ 64 from rfl, Nat.testBit_mod_two_pow, testBit_mul]
    simp [hj]
  have ht : x.testBit t = true := Nat.testBit_of_two_pow_le_and_two_pow_add_one_gt h2 h3
  rw [hbit t (by omega)] at ht
  simp only [Bool.and_eq_true, decide_eq_true_eq] at ht
  refine ⟨h1, hle, t - (63 - r), by omega, by omega, by rw [bitAt_of hb (by omega)]; exact ht.2, fun j g1 g2 => ?_⟩
  obtain ⟨s, rfl⟩ : ∃ s, j = 64 * q + s := ⟨j - 64 * q, by omega⟩
  rw [bitAt_of hb (by omega)]
  have h4 : x.testBit (s + (63 - r)) = false := Nat.testBit_lt_two_pow (Nat.lt_of_lt_of_le h3 (Nat.pow_le_pow_right (by decide) (by omega)))
  rw [hbit _ (by omega)] at h4
  have e : s + (63 - r) - (63 - r) = s := by omega
  have e2 : 63 - r ≤ s + (63 - r) := by omega
  simpa [e, e2] using h4
theorem up_none {B : List Nat} {q r b : Nat} (hb : B[q]? = some b) (hr : r < 64) (h0 : b / 2 ^ r = 0) : NoBits B (64 * q + r) (64 * q + 64) := by
  intro j h1 h2
  obtain ⟨s, rfl⟩ : ∃ s, j = 64 * q + (r + s) := ⟨j - (64 * q + r), by omega⟩
  rw [bitAt_of hb (by omega)]
  have := zero_testBit h0 s
  rwa [Nat.testBit_div_two_pow, Nat.add_comm] at this
theorem up_some {B : List Nat} {q r b x : Nat} (hb : B[q]? = some b) (hlt : b < 18446744073709551616) (hr : r < 64) (hx : b / 2 ^ r = x) (h0 : x ≠ 0) :
    r + Lib.ctz 64 x < 64 ∧ bitAt B (64 * q + r + Lib.ctz 64 x) = true ∧ NoBits B (64 * q + r) (64 * q + r + Lib.ctz 64 x) := by
  have hxl : x < 2 ^ 64 := by rw [← hx]; exact Nat.lt_of_le_of_lt (Nat.div_le_self _ _) hlt
  obtain ⟨m, h1, h2⟩ := Lib.ctzFrom_spec 64 x (Nat.pos_of_ne_zero h0) hxl
  have hz : Lib.ctz 64 x = Lib.ctzFrom 64 x := by unfold Lib.ctz; rw [if_neg h0]
  rw [← hz] at h1 h2
  generalize Lib.ctz 64 x = z at *
  have hb2 : ∀ j, x.testBit j = b.testBit (r + j) := fun j => by rw [← hx, Nat.testBit_div_two_pow, Nat.add_comm]
  have hxz : x.testBit z = true := by
    rw [h1, Nat.mul_comm, testBit_mul]
    simp [Nat.testBit_zero]
  have hrz : r + z < 64 := by
    rcases Nat.lt_or_ge (r + z) 64 with h | h
    · exact h
    · have hp : b < 2 ^ (r + z) := Nat.lt_of_lt_of_le (m := 2 ^ 64) hlt (Nat.pow_le_pow_right (by decide) h)
      rw [hb2, Nat.testBit_lt_two_pow hp] at hxz
      cases hxz
  refine ⟨hrz, ?_, fun j g1 g2 => ?_⟩
  · rw [Nat.add_assoc, bitAt_of hb hrz, ← hb2]; exact hxz
  · obtain ⟨s, rfl⟩ : ∃ s, j = 64 * q + (r + s) := ⟨j - (64 * q + r), by omega⟩
    rw [bitAt_of hb (by omega), ← hb2, h1, Nat.mul_comm, testBit_mul]
    have : ¬ (z ≤ s) := by omega
    simp [this]
end Go.EX

