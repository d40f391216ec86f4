import Derived.Test.YtgidfebccdfjgaaDoorK3
import Derived.Test.YtgidfebccdfjgaaDoorC1
set_option linter.unusedVariables false
set_option linter.unusedSimpArgs false
namespace Go.EX
theorem place64 {i : Nat} (h : i ≤ 1000000000) : ∃ q r : Nat, i / 64 = q ∧ i % 64 = r ∧ r < 64 ∧ IntKind.wrap .i64 ((i : Int).tdiv 64) = q ∧ IntKind.wrap .i64 ((i : Int) / 64) = q ∧ (i : Int).tmod 64 = r ∧ (i : Int) % 64 = r := by
  refine ⟨i / 64, i % 64, rfl, rfl, by omega, ?_, ?_, ?_, ?_⟩
  · rw [Int.tdiv_eq_ediv_of_nonneg (by omega), wrapI64 (by omega) (by omega)]; omega
  · rw [wrapI64 (by omega) (by omega)]; omega
  · rw [Int.tmod_eq_emod_of_nonneg (by omega)]; omega
  · omega
theorem shrNat (a j : Nat) (h : j ≤ 64) : (a : Int).fdiv (2 ^ (min ((j : Int).toNat) (IntKind.bits .u64))) = ((a / 2 ^ j : Nat) : Int) := by
  have : min ((j : Int).toNat) (IntKind.bits .u64) = j := by simp [IntKind.bits]; omega
  rw [this, Int.fdiv_eq_ediv_of_nonneg _ (Int.pow_nonneg (by decide))]
  simp
theorem wrapU64N {a : Nat} (h : a < 18446744073709551616) : IntKind.wrap .u64 (a : Int) = (a : Int) := wrapU64 (by omega) (by omega)
theorem ofIntN (a : Nat) : BitVec.ofInt 64 (a : Int) = BitVec.ofNat 64 a := by simp
theorem andNat {a b : Nat} (ha : a < 18446744073709551616) (hb : b < 18446744073709551616) : IntKind.wrap .u64 ((BitVec.ofInt 64 (a : Int) &&& BitVec.ofInt 64 (b : Int)).toNat : Int) = ((a &&& b : Nat) : Int) := by
  rw [ofIntN, ofIntN, BitVec.toNat_and, BitVec.toNat_ofNat, BitVec.toNat_ofNat, Nat.mod_eq_of_lt ha, Nat.mod_eq_of_lt hb]
  exact wrapU64N (Nat.lt_of_le_of_lt Nat.and_le_left ha)
theorem orNat {a b : Nat} (ha : a < 18446744073709551616) (hb : b < 18446744073709551616) : IntKind.wrap .u64 ((BitVec.ofInt 64 (a : Int) ||| BitVec.ofInt 64 (b : Int)).toNat : Int) = ((a ||| b : Nat) : Int) := by
  rw [ofIntN, ofIntN, BitVec.toNat_or, BitVec.toNat_ofNat, BitVec.toNat_ofNat, Nat.mod_eq_of_lt ha, Nat.mod_eq_of_lt hb]
  exact wrapU64N (Nat.or_lt_two_pow (n := 64) ha hb)
def minusBits (a b : Nat) : Nat := (BitVec.ofNat 64 a &&& ~~~ BitVec.ofNat 64 b).toNat
theorem andNotNat {a b : Nat} : IntKind.wrap .u64 ((BitVec.ofInt 64 (a : Int) &&& ~~~ BitVec.ofInt 64 (b : Int)).toNat : Int) = ((minusBits a b : Nat) : Int) := by
  rw [ofIntN, ofIntN]
  exact wrapU64N (BitVec.isLt _)
theorem minusBits_lt (a b : Nat) : minusBits a b < 18446744073709551616 := BitVec.isLt _
theorem minusBits_bit {a b j : Nat} (hj : j < 64) : (minusBits a b).testBit j = (a.testBit j && !b.testBit j) := by
  unfold minusBits
  rw [BitVec.testBit_toNat, BitVec.getLsbD_and, BitVec.getLsbD_not, BitVec.getLsbD_ofNat, BitVec.getLsbD_ofNat]
  simp only [hj, decide_true, Bool.true_and]
theorem shl1 {j : Nat} (h : j < 64) : IntKind.wrap .u64 (1 * 2 ^ (min ((j : Int).toNat) (IntKind.bits .u64))) = ((2 ^ j : Nat) : Int) := by
  have : min ((j : Int).toNat) (IntKind.bits .u64) = j := by simp [IntKind.bits]; omega
  have h2 : (2 : Nat) ^ j < 2 ^ 64 := Nat.pow_lt_pow_right (by decide) h
  rw [this, Int.one_mul]
  have := wrapU64N (a := 2 ^ j) h2
  simpa using this
theorem bit_and1 (a j : Nat) : decide ((((a / 2 ^ j) &&& 1 : Nat) : Int) = 1) = a.testBit j := by
  rw [Nat.and_one_is_mod, ← Nat.shiftRight_eq_div_pow]
  unfold Nat.testBit
  rw [Nat.and_comm, Nat.and_one_is_mod]
  by_cases h : (a >>> j) % 2 = 1
  · simp [h]
  · have : (a >>> j) % 2 = 0 := by omega
    simp [this]
theorem div_lt64 {a : Nat} (h : a < 18446744073709551616) (j : Nat) : a / 2 ^ j < 18446744073709551616 := Nat.lt_of_le_of_lt (Nat.div_le_self ..) h
abbrev u64v (n : Nat) : IV := .val (.int .u64 (n : Int))
abbrev uint64 (n : Nat) : AV := .imm (u64v n)
def bitAt (B : List Nat) (i : Nat) : Bool := ((B[i / 64]?).getD 0).testBit (i % 64)
def urow (B : List Nat) : List IV := B.map u64v
theorem urow_get {B : List Nat} {i b : Nat} (h : B[i]? = some b) : (urow B)[i]? = some (u64v b) := by simp [urow, h]
theorem urow_at {B : List Nat} {i b : Nat} (h : B[i]? = some b) : ∀ hh : i < (urow B).length, (urow B)[i] = u64v b := fun hh => by
  have := urow_get h
  rw [List.getElem?_eq_getElem hh] at this
  exact Option.some.inj this
theorem urow_len (B : List Nat) : (urow B).length = B.length := by simp [urow]
theorem urow_set (B : List Nat) (i b : Nat) : (urow B).set i (u64v b) = urow (B.set i b) := by simp [urow]
abbrev hMem (W B : List Nat) (e : Nat) : Mem := [.rich [.osl 1 0 1 W.length (some W.length), .osl 2 0 1 B.length (some B.length), int64 e], .flat (urow W) false, .flat (urow B) false]
theorem b_add (k : IntKind) (a b : Int) : intBin .add k a b = some (.int k (k.wrap (a + b))) := rfl
theorem b_sub (k : IntKind) (a b : Int) : intBin .sub k a b = some (.int k (k.wrap (a - b))) := rfl
theorem b_eql (k : IntKind) (a b : Int) : intBin .eql k a b = some (.bool (a == b)) := rfl
theorem b_neq (k : IntKind) (a b : Int) : intBin .neq k a b = some (.bool (a != b)) := rfl
theorem b_lss (k : IntKind) (a b : Int) : intBin .lss k a b = some (.bool (a < b)) := rfl
theorem b_leq (k : IntKind) (a b : Int) : intBin .leq k a b = some (.bool (a ≤ b)) := rfl
theorem b_gtr (k : IntKind) (a b : Int) : intBin .gtr k a b = some (.bool (a > b)) := rfl
theorem b_geq (k : IntKind) (a b : Int) : intBin .geq k a b = some (.bool (a ≥ b)) := rfl
theorem place_bin {i : Nat} (h : i ≤ 1000000000) : ∃ q r : Nat, i / 64 = q ∧ i % 64 = r ∧ r < 64 ∧ intBin .quo .i64 i 64 = some (.int .i64 q) ∧ intBin .rem .i64 i 64 = some (.int .i64 r) := by
  obtain ⟨q, r, h1, h2, h3, h4, _, h5, _⟩ := place64 h
  exact ⟨q, r, h1, h2, h3, by simp only [intBin, h4]; rfl, by simp only [intBin, h5]; rfl⟩
theorem shr_bin (a j : Nat) (h : j ≤ 64) : shiftBin .shr .u64 a j = some (.int .u64 (a / 2 ^ j : Nat)) := by
  unfold shiftBin
  rw [if_neg (by omega), shrNat a j h]
theorem shl_bin {j : Nat} (h : j < 64) : shiftBin .shl .u64 1 j = some (.int .u64 (2 ^ j : Nat)) := by
  unfold shiftBin
  rw [if_neg (by omega), shl1 h]
theorem and_bin {a b : Nat} (ha : a < 18446744073709551616) (hb : b < 18446744073709551616) : intBin .and .u64 a b = some (.int .u64 (a &&& b : Nat)) := by
  unfold intBin
  rw [← andNat ha hb]; rfl
theorem bit_bin (b r : Nat) (hb : b < 18446744073709551616) (hr : r < 64) : ∃ c g : Nat, shiftBin .shr .u64 b r = some (.int .u64 c) ∧ intBin .and .u64 c 1 = some (.int .u64 g) ∧ decide ((g : Int) = 1) = b.testBit r :=
  ⟨_, _, shr_bin b r (by omega), and_bin (div_lt64 hb r) (b := 1) (by decide), bit_and1 b r⟩
theorem or_bin {a b : Nat} (ha : a < 18446744073709551616) (hb : b < 18446744073709551616) : intBin .or .u64 a b = some (.int .u64 (a ||| b : Nat)) := by
  unfold intBin
  rw [← orNat ha hb]; rfl
theorem andNot_bin (a b : Nat) : intBin .andNot .u64 a b = some (.int .u64 (minusBits a b : Nat)) := by
  unfold intBin
  rw [← andNotNat]; rfl
end Go.EX

