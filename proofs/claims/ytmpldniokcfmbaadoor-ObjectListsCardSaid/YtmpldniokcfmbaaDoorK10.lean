import Derived.Test.YtmpldniokcfmbaaDoorK9
import Derived.Lib.TrailingZeros
import Derived.Lib.ItoaNum
set_option linter.unusedVariables false
set_option linter.unusedSimpArgs false
namespace Go.EX
theorem place64 {i : Nat} (h : i ≤ 1000000000) : ∃ q r : Nat, i / 64 = q ∧ i % 64 = r ∧ r < 64 ∧ IntKind.wrap .i64 ((i : Int).tdiv 64) = q ∧ IntKind.wrap .i64 ((i : Int) / 64) = q ∧ (i : Int).tmod 64 = r ∧ (i : Int) % 64 = r := by
 refine ⟨i / 64, i % 64, rfl, rfl, by omega, ?_, ?_, ?_, ?_⟩
 ·rw [Int.tdiv_eq_ediv_of_nonneg (by omega), wrapI64 (by omega) (by omega)]; omega
 ·rw [wrapI64 (by omega) (by omega)]; omega
 ·rw [Int.tmod_eq_emod_of_nonneg (by omega)]; omega
 ·omega
theorem shrNat (a j : Nat) (h : j ≤ 64) : (a : Int).fdiv (2 ^ (min ((j : Int).toNat) (IntKind.bits .u64))) = ((a / 2 ^ j : Nat) : Int) := by
 have : min ((j : Int).toNat) (IntKind.bits .u64) = j := by simp [IntKind.bits]; omega
 rw [this, Int.fdiv_eq_ediv_of_nonneg _ (Int.pow_nonneg (by decide))]
 simp
theorem wrapU64N {a : Nat} (h : a < 18446744073709551616) : IntKind.wrap .u64 (a : Int) = (a : Int) := wrapU64 (by omega) (by omega)
theorem ofIntN (a : Nat) : BitVec.ofInt 64 (a : Int) = BitVec.ofNat 64 a := by simp
theorem andNat {a b : Nat} (ha : a < 18446744073709551616) (hb : b < 18446744073709551616) : IntKind.wrap .u64 ((BitVec.ofInt 64 (a : Int) &&& BitVec.ofInt 64 (b : Int)).toNat : Int) = ((a &&& b : Nat) : Int) := by
 rw [ofIntN, ofIntN, BitVec.toNat_and, BitVec.toNat_ofNat, BitVec.toNat_ofNat, Nat.mod_eq_of_lt ha, Nat.mod_eq_of_lt hb]
 exact wrapU64N (Nat.lt_of_le_of_lt Nat.and_le_left ha)
theorem orNat {a b : Nat} (ha : a < 18446744073709551616) (hb : b < 18446744073709551616) : IntKind.wrap .u64 ((BitVec.ofInt 64 (a : Int) ||| BitVec.ofInt 64 (b : Int)).toNat : Int) = ((a ||| b : Nat) : Int) := by
 rw [ofIntN, ofIntN, BitVec.toNat_or, BitVec.toNat_ofNat, BitVec.toNat_ofNat, Nat.mod_eq_of_lt ha, Nat.mod_eq_of_lt hb]
 exact wrapU64N (Nat.or_lt_two_pow (n := 64) ha hb)
def minusBits (a b : Nat) : Nat := (BitVec.ofNat 64 a &&& ~~~ BitVec.ofNat 64 b).toNat
theorem andNotNat {a b : Nat} : IntKind.wrap .u64 ((BitVec.ofInt 64 (a : Int) &&& ~~~ BitVec.ofInt 64 (b : Int)).toNat : Int) = ((minusBits a b : Nat) : Int) := by
 rw [ofIntN, ofIntN]
 exact wrapU64N (BitVec.isLt _)
theorem zjc (a b : Nat) : minusBits a b < 18446744073709551616 := BitVec.isLt _
theorem zjb {a b j : Nat} (hj : j < 64) : (minusBits a b).testBit j = (a.testBit j && !b.testBit j) := by
 unfold minusBits
 rw [BitVec.testBit_toNat, BitVec.getLsbD_and, BitVec.getLsbD_not, BitVec.getLsbD_ofNat, BitVec.getLsbD_ofNat]
 simp only [hj, decide_true, Bool.true_and]
theorem shl1 {j : Nat} (h : j < 64) : IntKind.wrap .u64 (1 * 2 ^ (min ((j : Int).toNat) (IntKind.bits .u64))) = ((2 ^ j : Nat) : Int) := by
 have : min ((j : Int).toNat) (IntKind.bits .u64) = j := by simp [IntKind.bits]; omega
 have h2 : (2 : Nat) ^ j < 2 ^ 64 := Nat.pow_lt_pow_right (by decide) h
 rw [this, Int.one_mul]
 have := wrapU64N (a := 2 ^ j) h2
 simpa using this
theorem zbp (a j : Nat) : decide ((((a / 2 ^ j) &&& 1 : Nat) : Int) = 1) = a.testBit j := by
 rw [Nat.and_one_is_mod, ← Nat.shiftRight_eq_div_pow]
 unfold Nat.testBit
 rw [Nat.and_comm, Nat.and_one_is_mod]
 by_cases h : (a >>> j) % 2 = 1
 ·simp [h]
 ·have : (a >>> j) % 2 = 0 := by omega
  simp [this]
theorem zdb {a : Nat} (h : a < 18446744073709551616) (j : Nat) : a / 2 ^ j < 18446744073709551616 := Nat.lt_of_le_of_lt (Nat.div_le_self ..) h
abbrev u64v (n : Nat) : IV := .val (.int .u64 (n : Int))
abbrev uint64 (n : Nat) : AV := .imm (u64v n)
def bitAt (B : List Nat) (i : Nat) : Bool := ((B[i / 64]?).getD 0).testBit (i % 64)
def urow (B : List Nat) : List IV := B.map u64v
theorem zqu {B : List Nat} {i b : Nat} (h : B[i]? = some b) : (urow B)[i]? = some (u64v b) := by simp [urow, h]
theorem zqs {B : List Nat} {i b : Nat} (h : B[i]? = some b) : ∀ hh : i < (urow B).length, (urow B)[i] = u64v b := fun hh => by
 have := zqu h
 rw [List.getElem?_eq_getElem hh] at this
 exact Option.some.inj this
theorem zqv (B : List Nat) : (urow B).length = B.length := by simp [urow]
theorem zqw (B : List Nat) (i b : Nat) : (urow B).set i (u64v b) = urow (B.set i b) := by simp [urow]
abbrev hMem (W B : List Nat) (e : Nat) : Mem := [.rich [.osl 1 0 1 W.length (some W.length), .osl 2 0 1 B.length (some B.length), int64 e], .flat (urow W) false, .flat (urow B) false]
theorem b_add (k : IntKind) (a b : Int) : intBin .add k a b = some (.int k (k.wrap (a + b))) := rfl
theorem b_sub (k : IntKind) (a b : Int) : intBin .sub k a b = some (.int k (k.wrap (a - b))) := rfl
theorem b_eql (k : IntKind) (a b : Int) : intBin .eql k a b = some (.bool (a == b)) := rfl
theorem b_neq (k : IntKind) (a b : Int) : intBin .neq k a b = some (.bool (a != b)) := rfl
theorem b_lss (k : IntKind) (a b : Int) : intBin .lss k a b = some (.bool (a < b)) := rfl
theorem b_leq (k : IntKind) (a b : Int) : intBin .leq k a b = some (.bool (a ≤ b)) := rfl
theorem b_gtr (k : IntKind) (a b : Int) : intBin .gtr k a b = some (.bool (a > b)) := rfl
theorem b_geq (k : IntKind) (a b : Int) : intBin .geq k a b = some (.bool (a ≥ b)) := rfl
theorem zk7 {i : Nat} (h : i ≤ 1000000000) : ∃ q r : Nat, i / 64 = q ∧ i % 64 = r ∧ r < 64 ∧ intBin .quo .i64 i 64 = some (.int .i64 q) ∧ intBin .rem .i64 i 64 = some (.int .i64 r) := by
 obtain ⟨q, r, h1, h2, h3, h4, _, h5, _⟩ := place64 h
 exact ⟨q, r, h1, h2, h3, by simp only [intBin, h4]; rfl, by simp only [intBin, h5]; rfl⟩
theorem zo0 (a j : Nat) (h : j ≤ 64) : shiftBin .shr .u64 a j = some (.int .u64 (a / 2 ^ j : Nat)) := by
 unfold shiftBin
 rw [if_neg (by omega), shrNat a j h]
theorem zoy {j : Nat} (h : j < 64) : shiftBin .shl .u64 1 j = some (.int .u64 (2 ^ j : Nat)) := by
 unfold shiftBin
 rw [if_neg (by omega), shl1 h]
theorem zaz {a b : Nat} (ha : a < 18446744073709551616) (hb : b < 18446744073709551616) : intBin .and .u64 a b = some (.int .u64 (a &&& b : Nat)) := by
 unfold intBin
 rw [← andNat ha hb]; rfl
theorem zbq (b r : Nat) (hb : b < 18446744073709551616) (hr : r < 64) : ∃ c g : Nat, shiftBin .shr .u64 b r = some (.int .u64 c) ∧ intBin .and .u64 c 1 = some (.int .u64 g) ∧ decide ((g : Int) = 1) = b.testBit r :=
 ⟨_, _, zo0 b r (by omega), zaz (zdb hb r) (b := 1) (by decide), zbp b r⟩
theorem or_bin {a b : Nat} (ha : a < 18446744073709551616) (hb : b < 18446744073709551616) : intBin .or .u64 a b = some (.int .u64 (a ||| b : Nat)) := by
 unfold intBin
 rw [← orNat ha hb]; rfl
theorem zay (a b : Nat) : intBin .andNot .u64 a b = some (.int .u64 (minusBits a b : Nat)) := by
 unfold intBin
 rw [← andNotNat]; rfl
end Go.EX


set_option linter.unusedVariables false
set_option linter.unusedSimpArgs false
namespace Go.EX
def NoBits (B : List Nat) (lo hi : Nat) : Prop := ∀ j, lo ≤ j → j < hi → bitAt B j = false
theorem zbm {B : List Nat} {q b r : Nat} (hb : B[q]? = some b) (hr : r < 64) : bitAt B (64 * q + r) = b.testBit r := by
 unfold bitAt
 have h1 : (64 * q + r) / 64 = q := by omega
 have h2 : (64 * q + r) % 64 = r := by omega
 rw [h1, h2, hb]; rfl
theorem zpv (b k j : Nat) : (b * 2 ^ k).testBit j = (decide (k ≤ j) && b.testBit (j - k)) := by
 rw [← Nat.shiftLeft_eq, Nat.testBit_shiftLeft]
theorem zero_testBit {x : Nat} (h : x = 0) (j : Nat) : x.testBit j = false := by rw [h]; exact Nat.zero_testBit j
theorem zdd {B : List Nat} {q r b : Nat} (hb : B[q]? = some b) (hr : r < 64) (h0 : (b * 2 ^ (63 - r)) % 18446744073709551616 = 0) : NoBits B (64 * q) (64 * q + r + 1) := by
 intro j h1 h2
 obtain ⟨s, rfl⟩ : ∃ s, j = 64 * q + s := ⟨j - 64 * q, by omega⟩
 rw [zbm hb (by omega)]
 have := zero_testBit h0 (s + (63 - r))
 rw [show 18446744073709551616 = 2 ^ 64 from rfl, Nat.testBit_mod_two_pow, zpv] at this
 have e : s + (63 - r) - (63 - r) = s := by omega
 have e2 : 63 - r ≤ s + (63 - r) := by omega
 have e3 : s + (63 - r) < 64 := by omega
 simpa [e, e2, e3] using this
theorem zde {B : List Nat} {q r b x : Nat} (hb : B[q]? = some b) (hr : r < 64) (hx : (b * 2 ^ (63 - r)) % 18446744073709551616 = x) (h0 : x ≠ 0) :
  1 ≤ Lib.bitLen x ∧ Lib.bitLen x ≤ 64 ∧ ∃ s, s ≤ r ∧ 64 + s = r + Lib.bitLen x ∧ bitAt B (64 * q + s) = true ∧ NoBits B (64 * q + s + 1) (64 * q + r + 1) := by
 have hlt : x < 2 ^ 64 := by rw [← hx]; exact Nat.mod_lt _ (by decide)
 obtain ⟨h1, h2, h3⟩ := Lib.bitLenAux_bounds 64 x hlt h0
 have hle := Lib.bitLen_le x 64 (Nat.le_refl _) hlt
 change 1 ≤ Lib.bitLen x at h1
 change 2 ^ (Lib.bitLen x - 1) ≤ x at h2
 change x < 2 ^ Lib.bitLen x at h3
 generalize Lib.bitLen x = L at *
 obtain ⟨t, rfl⟩ : ∃ t, L = t + 1 := ⟨L - 1, by omega⟩
 simp only [Nat.add_sub_cancel] at h2
 have hbit : ∀ j, j < 64 → x.testBit j = (decide (63 - r ≤ j) && b.testBit (j - (63 - r))) := by
  intro j hj
  rw [← hx, show 18446744073709551616 = 2 ^ 64 from rfl, Nat.testBit_mod_two_pow, zpv]
  simp [hj]
 have ht : x.testBit t = true := Nat.testBit_of_two_pow_le_and_two_pow_add_one_gt h2 h3
 rw [hbit t (by omega)] at ht
 simp only [Bool.and_eq_true, decide_eq_true_eq] at ht
 refine ⟨h1, hle, t - (63 - r), by omega, by omega, by rw [zbm hb (by omega)]; exact ht.2, fun j g1 g2 => ?_⟩
 obtain ⟨s, rfl⟩ : ∃ s, j = 64 * q + s := ⟨j - 64 * q, by omega⟩
 rw [zbm hb (by omega)]
 have h4 : x.testBit (s + (63 - r)) = false := Nat.testBit_lt_two_pow (Nat.lt_of_lt_of_le h3 (Nat.pow_le_pow_right (by decide) (by omega)))
 rw [hbit _ (by omega)] at h4
 have e : s + (63 - r) - (63 - r) = s := by omega
 have e2 : 63 - r ≤ s + (63 - r) := by omega
 simpa [e, e2] using h4
theorem zqj {B : List Nat} {q r b : Nat} (hb : B[q]? = some b) (hr : r < 64) (h0 : b / 2 ^ r = 0) : NoBits B (64 * q + r) (64 * q + 64) := by
 intro j h1 h2
 obtain ⟨s, rfl⟩ : ∃ s, j = 64 * q + (r + s) := ⟨j - (64 * q + r), by omega⟩
 rw [zbm hb (by omega)]
 have := zero_testBit h0 s
 rwa [Nat.testBit_div_two_pow, Nat.add_comm] at this
theorem zqk {B : List Nat} {q r b x : Nat} (hb : B[q]? = some b) (hlt : b < 18446744073709551616) (hr : r < 64) (hx : b / 2 ^ r = x) (h0 : x ≠ 0) :
  r + Lib.ctz 64 x < 64 ∧ bitAt B (64 * q + r + Lib.ctz 64 x) = true ∧ NoBits B (64 * q + r) (64 * q + r + Lib.ctz 64 x) := by
 have hxl : x < 2 ^ 64 := by rw [← hx]; exact Nat.lt_of_le_of_lt (Nat.div_le_self _ _) hlt
 obtain ⟨m, h1, h2⟩ := Lib.ctzFrom_spec 64 x (Nat.pos_of_ne_zero h0) hxl
 have hz : Lib.ctz 64 x = Lib.ctzFrom 64 x := by unfold Lib.ctz; rw [if_neg h0]
 rw [← hz] at h1 h2
 generalize Lib.ctz 64 x = z at *
 have hb2 : ∀ j, x.testBit j = b.testBit (r + j) := fun j => by rw [← hx, Nat.testBit_div_two_pow, Nat.add_comm]
 have hxz : x.testBit z = true := by
  rw [h1, Nat.mul_comm, zpv]
  simp [Nat.testBit_zero]
 have hrz : r + z < 64 := by
  rcases Nat.lt_or_ge (r + z) 64 with h | h
  ·exact h
  ·have hp : b < 2 ^ (r + z) := Nat.lt_of_lt_of_le (m := 2 ^ 64) hlt (Nat.pow_le_pow_right (by decide) h)
   rw [hb2, Nat.testBit_lt_two_pow hp] at hxz
   cases hxz
 refine ⟨hrz, ?_, fun j g1 g2 => ?_⟩
 ·rw [Nat.add_assoc, zbm hb hrz, ← hb2]; exact hxz
 ·obtain ⟨s, rfl⟩ : ∃ s, j = 64 * q + (r + s) := ⟨j - (64 * q + r), by omega⟩
  rw [zbm hb (by omega), ← hb2, h1, Nat.mul_comm, zpv]
  have : ¬ (z ≤ s) := by omega
  simp [this]
end Go.EX


set_option linter.unusedVariables false
set_option linter.unusedSimpArgs false
namespace Go.EX
section
variable {code : Nat → Option XFun} {ext : Calls'}
theorem is_yes (h : code 183 = some x183) (W B : List Nat) (e i b : Nat) (hi : i < e) (hb : B[i / 64]? = some b) (hlt : b < 18446744073709551616) (hbd : e ≤ 1000000000) :
  callW code ext 183 [.optr 0 0, int64 i] (hMem W B e) = some (avb (b.testBit (i % 64)), hMem W B e) := by
 rw [zbw code ext h]
 have h0 : (0 : Int) ≤ i := by omega
 have h1 : (i : Int) < e := by omega
 obtain ⟨q, r, hq, hr, hr64, e1, e2⟩ := zk7 (i := i) (by omega)
 rw [hq] at hb
 rw [hr]
 have h4 := zqu hb
 have h5 : q < B.length := (List.getElem?_eq_some_iff.1 hb).1
 obtain ⟨c, g, h7, h8, h9⟩ := zbq b r hlt hr64
 simp -implicitDefEqProofs [-intBin, -shiftBin, b_geq, b_lss, b_eql, x183, h0, h1, e1, e2, h4, h5, h7, h8, h9]
theorem is_no (h : code 183 = some x183) (W B : List Nat) (e : Nat) (i : Int) (hi : ¬ (0 ≤ i ∧ i < e)) :
  callW code ext 183 [.optr 0 0, int64 i] (hMem W B e) = some (avb false, hMem W B e) := by
 rw [zbw code ext h]
 by_cases h0 : 0 ≤ i
 ·have h1 : ¬ i < e := fun h => hi ⟨h0, h⟩
  simp -implicitDefEqProofs [x183, h0, h1]
 ·simp -implicitDefEqProofs [x183, h0]
end
end Go.EX


set_option linter.unusedVariables false
set_option linter.unusedSimpArgs false
namespace Go.EX
section
variable {code : Nat → Option XFun} {ext : Calls'}
theorem zgi (h : code 182 = some x182) (W B : List Nat) (e : Nat) (hW : 1 ≤ W.length) : callW code ext 182 [.optr 0 0] (hMem W B e) = some (avb false, hMem W B e) := by
 rw [zbw code ext h]
 have h1 : ¬ ((W.length : Int) = 0) := by omega
 have h2 : W ≠ [] := by rintro rfl; simp at hW
 simp -implicitDefEqProofs [x182, h1, h2]
theorem zqx (h : code 176 = some x176) (W B : List Nat) (e : Nat) : callW code ext 176 [.optr 0 0] (hMem W B e) = some (int64 e, hMem W B e) := by
 rw [zbw code ext h]
 simp -implicitDefEqProofs [x176]
theorem zrf (h : code 177 = some x177) (W B : List Nat) (e : Nat) : callW code ext 177 [.optr 0 0] (hMem W B e) = some (int64 W.length, hMem W B e) := by
 rw [zbw code ext h]
 simp -implicitDefEqProofs [x177]
theorem zo1 (w : Nat) : shiftBin .shr .u64 w 8 = some (.int .u64 ((w / 256 : Nat) : Int)) := zo0 w 8 (by omega)
theorem zo3 (h : code 186 = some x186) (W B : List Nat) (e i w n : Nat) (hw : W[i]? = some w) (hn : w / 256 = n) (hlt : w < 18446744073709551616) :
  callW code ext 186 [.optr 0 0, int64 i] (hMem W B e) = some (int64 n, hMem W B e) := by
 rw [zbw code ext h]
 have h1 := zqu hw
 have h2 : (i : Int) < W.length := by have := (List.getElem?_eq_some_iff.1 hw).1; omega
 have h3 := zo1 w
 rw [hn] at h3
 have h4 : IntKind.wrap .i64 (n : Int) = n := wrapI64 (by omega) (by omega)
 have h5 : i < W.length := by omega
 simp -implicitDefEqProofs [-shiftBin, x186, h1, h2, h3, h4, h5]
abbrev ownSl (W : List Nat) (i n : Nat) : AV := .osl 1 (i + 1) 1 n (some (W.length - (i + 1)))
theorem zkp (h : code 186 = some x186) (h' : code 185 = some x185) (W B : List Nat) (e i w n : Nat) (hw : W[i]? = some w) (hn : w / 256 = n) (hlt : w < 18446744073709551616) (hi : i + 1 + n ≤ W.length) (hbd : W.length ≤ 1048576) :
  callW code ext 185 [.optr 0 0, int64 i] (hMem W B e) = some (ownSl W i n, hMem W B e) := by
 have h1 := zo3 (ext := ext) h W B e i w n hw hn hlt
 rw [zbw code ext h']
 have e1 : IntKind.wrap .i64 ((i : Int) + 1) = (i : Int) + 1 := wrapI64 (by omega) (by omega)
 have e2 : IntKind.wrap .i64 ((i : Int) + 1 + n) = (i : Int) + 1 + n := wrapI64 (by omega) (by omega)
 have e3 : (i : Int) + 1 ≤ (i : Int) + 1 + n := by omega
 have e4 : (i : Int) + 1 + n ≤ W.length := by omega
 have e5 : (0 : Int) ≤ (i : Int) + 1 := by omega
 have e6 : ((i : Int) + 1).toNat = i + 1 := by omega
 have e7 : ((i : Int) + 1 + n).toNat = i + 1 + n := by omega
 have e8 : i + 1 + n - (i + 1) = n := by omega
 simp -implicitDefEqProofs [x185, h1, e1, e2, e3, e4, e5, e6, e7, e8, exSlice, bounds]
end
end Go.EX


set_option linter.unusedVariables false
set_option linter.unusedSimpArgs false
namespace Go.EX
structure ObjAt (W B : List Nat) (e i n : Nat) : Prop where
 lt : i + 1 + n ≤ e
 top : e ≤ W.length
 bd : W.length ≤ 1048576
 bit : ∃ b, B[i / 64]? = some b ∧ b < 18446744073709551616 ∧ b.testBit (i % 64) = true
 head : ∃ w, W[i]? = some w ∧ w / 256 = n ∧ w < 18446744073709551616
def NoObj (B : List Nat) (e : Nat) (i : Int) : Prop := 0 ≤ i → i < e → ∃ b, B[i.toNat / 64]? = some b ∧ b < 18446744073709551616 ∧ b.testBit (i.toNat % 64) = false
section
variable {code : Nat → Option XFun} {ext : Calls'}
structure Smalls (code : Nat → Option XFun) : Prop where
 c182 : code 182 = some x182
 c183 : code 183 = some x183
 c184 : code 184 = some x184
 c185 : code 185 = some x185
 c186 : code 186 = some x186
theorem is_obj (c : Smalls code) {W B : List Nat} {e i n : Nat} (o : ObjAt W B e i n) : callW code ext 183 [.optr 0 0, int64 i] (hMem W B e) = some (avb true, hMem W B e) := by
 obtain ⟨b, h1, h2, h3⟩ := o.bit
 rw [is_yes c.c183 W B e i b (by have := o.lt; omega) h1 h2 (by have := o.top; have := o.bd; omega), h3]
theorem zhi (c : Smalls code) {W B : List Nat} {e : Nat} {i : Int} (he : e ≤ 1048576) (o : NoObj B e i) : callW code ext 183 [.optr 0 0, int64 i] (hMem W B e) = some (avb false, hMem W B e) := by
 by_cases h : 0 ≤ i ∧ i < e
 ·obtain ⟨b, h1, h2, h3⟩ := o h.1 h.2
  obtain ⟨k, rfl⟩ : ∃ k : Nat, i = k := ⟨i.toNat, by omega⟩
  rw [is_yes c.c183 W B e k b (by omega) (by simpa using h1) h2 (by omega)]
  rw [Int.toNat_natCast] at h3
  rw [h3]
 ·exact is_no c.c183 W B e i h
theorem zis (c : Smalls code) {W B : List Nat} {e i n : Nat} (o : ObjAt W B e i n) :
  callW code ext 184 [.optr 0 0, int64 i] (hMem W B e) = some (.tup [ownSl W i n, int64 0], hMem W B e) := by
 obtain ⟨w, w1, w2, w3⟩ := o.head
 have h1 := zgi (ext := ext) c.c182 W B e (by have := o.lt; have := o.top; omega)
 have h2 := is_obj (ext := ext) c o
 have h3 := zkp (ext := ext) c.c186 c.c185 W B e i w n w1 w2 w3 (by have := o.lt; have := o.top; omega) o.bd
 rw [zbw code ext c.c184]
 simp -implicitDefEqProofs [x184, h1, h2, h3]
theorem zir (c : Smalls code) {W B : List Nat} {e : Nat} {i : Int} (hW : 1 ≤ W.length) (he : e ≤ 1048576) (o : NoObj B e i) :
  callW code ext 184 [.optr 0 0, int64 i] (hMem W B e) = some (.tup [nilS, int64 1], hMem W B e) := by
 have h1 := zgi (ext := ext) c.c182 W B e hW
 have h2 := zhi (ext := ext) (W := W) c he o
 rw [zbw code ext c.c184]
 simp -implicitDefEqProofs [x184, h1, h2]
theorem zl7 (c : Smalls code) (h : code 174 = some x174) {W B : List Nat} {e i n : Nat} (o : ObjAt W B e i n) {k v : Nat} (hk : k < n) (hv : W[i + 1 + k]? = some v) :
  callW code ext 174 [.optr 0 0, int64 i, int64 k] (hMem W B e) = some (.tup [uint64 v, int64 0], hMem W B e) := by
 have h1 := zis (ext := ext) c o
 have h2 := zqu hv
 have e1 : ¬ ((k : Int) < 0) := by omega
 have e2 : ¬ ((k : Int) ≥ n) := by omega
 have e3 : (k : Int) < n := by omega
 rw [zbw code ext h]
 simp -implicitDefEqProofs [x174, h1, h2, e1, e2, e3, hk]
theorem zrj (c : Smalls code) (h : code 178 = some x178) {W B : List Nat} {e i n : Nat} (o : ObjAt W B e i n) {k v : Nat} (hk : k < n) :
  callW code ext 178 [.optr 0 0, int64 i, int64 k, uint64 v] (hMem W B e) = some (int64 0, hMem (W.set (i + 1 + k) v) B e) := by
 have h1 := zis (ext := ext) c o
 have h2 := zqw W (i + 1 + k) v
 have h3 := zqv W
 have e1 : ¬ ((k : Int) < 0) := by omega
 have e2 : ¬ ((k : Int) ≥ n) := by omega
 have e3 : (k : Int) < n := by omega
 have e4 : i + 1 + k + 1 ≤ W.length := by have := o.lt; have := o.top; omega
 have e5 : i + 1 + k < W.length := by omega
 rw [zbw code ext h]
 simp -implicitDefEqProofs [x178, h1, h2, h3, e1, e2, e3, e4, e5, hk]
 simp [setAll, h2]
theorem zo2 (c : Smalls code) (h : code 175 = some x175) {W B : List Nat} {e i n : Nat} (o : ObjAt W B e i n) :
  callW code ext 175 [.optr 0 0, int64 i] (hMem W B e) = some (.tup [int64 n, int64 0], hMem W B e) := by
 have h1 := zis (ext := ext) c o
 rw [zbw code ext h]
 simp -implicitDefEqProofs [x175, h1]
end
end Go.EX


set_option linter.unusedVariables false
set_option linter.unusedSimpArgs false
namespace Go.EX
section
variable {code : Nat → Option XFun} {ext : Calls'}
theorem zcn (n : Nat) : copies n [u64v 0] = urow (List.replicate n 0) := by
 induction n with
 | zero => rfl
 | succ n ih => simp only [copies, ih, urow, List.replicate_succ, List.map_cons, List.singleton_append]
theorem zco (n : Nat) : copies n [IV.val (Value.int .u64 0)] = urow (List.replicate n 0) := zcn n
theorem new_ok (h : code 567 = some x567) (n : Nat) (h1 : 1 ≤ n) (h2 : n ≤ 1048576) :
  callW code ext 567 [int64 n] [] = some (.tup [.optr 0 0, int64 0], hMem (List.replicate n 0) (List.replicate (n / 64 + 1) 0) 0) := by
 rw [zbw code ext h]
 obtain ⟨q, r, hq, hr, hr64, e1, e2⟩ := zk7 (i := n) (by omega)
 have e3 : ¬ ((n : Int) < 1) := by omega
 have e4 : ¬ ((n : Int) > 1048576) := by omega
 have e4' : ¬ (1048576 < (n : Int)) := by omega
 have e5 : (0 : Int) ≤ n := by omega
 have e6 : 8 * (n : Int) ≤ 281474976710656 := by omega
 have e7 : (n : Int) ≤ 9223372036854775807 := by omega
 have e8 : IntKind.wrap .i64 ((q : Int) + 1) = (q : Int) + 1 := wrapI64 (by omega) (by omega)
 have f5 : (0 : Int) ≤ (q : Int) + 1 := by omega
 have f6 : 8 * ((q : Int) + 1) ≤ 281474976710656 := by omega
 have f7 : (q : Int) + 1 ≤ 9223372036854775807 := by omega
 have f8 : ((q : Int) + 1).toNat = q + 1 := by omega
 have g1 := zco n
 have g2 := zco (q + 1)
 rw [hq]
 simp -implicitDefEqProofs [-intBin, b_add, b_lss, b_gtr, x567, e1, e2, e3, e4, e4', e5, e6, e7, e8, f5, f6, f7, f8, g1, g2]
end
end Go.EX


set_option linter.unusedVariables false
set_option linter.unusedSimpArgs false
namespace Go.EX
section
variable {code : Nat → Option XFun} {ext : Calls'}
theorem zce (n : Nat) : imms ((copies n [Value.int .u64 0]).map fun z => AV.imm (IV.val z)) = some (urow (List.replicate n 0)) := by
 have : (copies n [Value.int .u64 0]).map (fun z => AV.imm (IV.val z)) = (urow (List.replicate n 0)).map AV.imm := by
  induction n with
  | zero => rfl
  | succ n ih =>
   have h : urow (List.replicate (n + 1) 0) = u64v 0 :: urow (List.replicate n 0) := by simp only [urow, List.replicate_succ, List.map_cons]
   rw [h]
   simp only [copies, List.singleton_append, List.map_cons, ih]
   rfl
 rw [this, imms_imm]
theorem zom : ∀ (l W : List Nat) (o : Nat), setAll (urow W) o (urow l) = urow (setAll W o l)
 | [], W, o => rfl
 | x :: l, W, o => by
  show setAll ((urow W).set o (u64v x)) (o + 1) (urow l) = _
  rw [zqw, zom l]; rfl
theorem zgs {n k : Nat} (hn : n ≤ 1048576) (hk : k < 256) : shiftBin .shl .u64 n 8 = some (.int .u64 ((n * 256 : Nat) : Int)) ∧ intBin .or .u64 ((n * 256 : Nat) : Int) k = some (.int .u64 ((n * 256 + k : Nat) : Int)) := by
 constructor
 ·unfold shiftBin
  rw [if_neg (by decide)]
  show some (Value.int IntKind.u64 (IntKind.wrap .u64 ((n : Int) * 2 ^ 8))) = _
  rw [wrapU64 (by omega) (by omega)]
  norm_cast
 ·rw [or_bin (by omega) (by omega)]
  congr 2
  have := Nat.two_pow_add_eq_or_of_lt (b := k) (i := 8) hk n
  rw [Nat.mul_comm] at this
  rw [← this]
theorem zax (c : Smalls code) (h : code 169 = some x169) {W B : List Nat} {e n k b : Nat} (hk : 3 ≤ k) (hk2 : k ≤ 8) (hn : n + e < W.length) (hbd : W.length ≤ 1048576) (hb : B[e / 64]? = some b) (hb2 : b < 18446744073709551616) :
  callW code ext 169 [.optr 0 0, .imm (.val (.int .u8 k)), int64 n] (hMem W B e) =
   some (.tup [int64 e, int64 0], hMem (setAll (W.set e (n * 256 + k)) (e + 1) (List.replicate n 0)) (B.set (e / 64) (b ||| 2 ^ (e % 64))) (e + n + 1)) := by
 have hg := zgi (ext := ext) c.c182 W B e (by omega)
 obtain ⟨q, r, hq, hr, hr64, e1, e2⟩ := zk7 (i := e) (by omega)
 rw [hq] at hb
 rw [hq, hr]
 obtain ⟨s1, s2⟩ := zgs (n := n) (k := k) (by omega) (by omega)
 have hlast : (n * 256 + k) / 256 = n := by omega
 have hlt : n * 256 + k < 18446744073709551616 := by omega
 have hlen2 : (setAll (W.set e (n * 256 + k)) (e + 1) (List.replicate n 0)).length = W.length := by rw [zoj]; simp
 generalize hH : n * 256 + k = H at *
 generalize n * 256 = N8 at *
 have s3 := zoy hr64
 have hp : (2 : Nat) ^ r < 18446744073709551616 := Nat.pow_lt_pow_right (by decide) hr64
 have s4 := or_bin hb2 hp
 generalize (2 : Nat) ^ r = pw at *
 have s5 := zqu hb
 have s5' := zqs hb
 generalize hbo : b ||| pw = bo at *
 have hqB : q < B.length := (List.getElem?_eq_some_iff.1 hb).1
 have t1 : ¬ ((k : Int) < 3) := by omega
 have t2 : ¬ ((k : Int) > 8) := by omega
 have t2' : ¬ (8 < (k : Int)) := by omega
 have t3 : ¬ ((n : Int) < 0) := by omega
 have t4 : IntKind.wrap .i64 ((W.length : Int) - e) = (W.length : Int) - e := wrapI64 (by omega) (by omega)
 have t5 : ¬ ((n : Int) ≥ (W.length : Int) - e) := by omega
 have t5' : ¬ ((W.length : Int) - e ≤ n) := by omega
 have t5'' : ¬ ((W.length : Int) ≤ n + e) := by omega
 have t6 : IntKind.wrap .u64 (n : Int) = n := wrapU64 (by omega) (by omega)
 have t7 : IntKind.wrap .u64 (k : Int) = k := wrapU64 (by omega) (by omega)
 have t8 : (0 : Int) ≤ e := by omega
 have t9 : (e : Int) < W.length := by omega
 have t9' : e < W.length := by omega
 have t10 : e + 1 ≤ W.length := by omega
 have t11 : q + 1 ≤ B.length := by omega
 have t12 : IntKind.wrap .i64 ((n : Int) + 1) = (n : Int) + 1 := wrapI64 (by omega) (by omega)
 generalize hE : e + n + 1 = E at *
 have t13 : IntKind.wrap .i64 ((e : Int) + ((n : Int) + 1)) = E := by rw [wrapI64 (by omega) (by omega)]; omega
 have u1 := zqw W e H
 have u2 := zqw B q bo
 have u3 := zqv W
 have u4 := zqv B
 have hown := zkp (ext := ext) c.c186 c.c185 (W.set e H) (B.set q bo) E e H n (by simp [t9']) hlast hlt (by simp; omega) (by simp; omega)
 simp only [hMem, List.length_set, ownSl] at hown
 have v1 := zce n
 have v2 := zom (List.replicate n 0) (W.set e H) (e + 1)
 have v3 : e + 1 + n ≤ W.length := by omega
 have v4 := zqv (W.set e H)
 have v5 := zqv (List.replicate n 0)
 rw [List.length_set] at v4
 rw [List.length_replicate] at v5
 rw [zbw code ext h]
 by_cases hn0 : n = 0
 ·subst hn0
  simp only [Int.natCast_zero, Int.zero_add] at s1 t3 t5 t5' t5'' t6 t12 t13
  have w1 : ¬ ((W.length : Int) - e ≤ 0) := by omega
  have w2 : ¬ ((W.length : Int) ≤ e) := by omega
  have w3 : ¬ (W.length ≤ e) := by omega
  have w4 : IntKind.wrap .u64 0 = 0 := by decide
  have w5 : IntKind.wrap .i64 1 = 1 := by decide
  simp -implicitDefEqProofs [-intBin, -shiftBin, b_add, b_sub, b_lss, b_gtr, b_geq, x169, hg, e1, e2, s1, s2, s3, s4, s5, s5', hqB, t1, t2, t2', t3, t4, t5, t5', t5'', t6, t7, t8, t9, t9', t10, t11, t12, t13, u1, u2, u3, u4, hown, setAll, hlen2, w1, w2, w3, w4, w5]
 ·simp -implicitDefEqProofs [-intBin, -shiftBin, b_add, b_sub, b_lss, b_gtr, b_geq, x169, hg, e1, e2, s1, s2, s3, s4, s5, s5', hqB, t1, t2, t2', t3, t4, t5, t5', t5'', t6, t7, t8, t9, t9', t10, t11, t12, t13, u1, u2, u3, u4, hown, hn0, v1, v2, v3, v4, v5, setAll, hlen2]
end
end Go.EX


set_option linter.unusedVariables false
set_option linter.unusedSimpArgs false
namespace Go.EX
def hd (W : List Nat) (i : Nat) : Nat := (W[i]?).getD 0 / 256
structure HI (W B : List Nat) (e : Nat) : Prop where
 pos : 1 ≤ W.length
 bd : W.length ≤ 1048576
 bl : B.length = W.length / 64 + 1
 top : e ≤ W.length
 wlt : ∀ w ∈ W, w < 18446744073709551616
 blt : ∀ b ∈ B, b < 18446744073709551616
 inn : ∀ i, bitAt B i = true → i + 1 + hd W i ≤ e
 apart : ∀ i j, bitAt B i = true → bitAt B j = true → i < j → i + 1 + hd W i ≤ j
variable {W B : List Nat} {e : Nat}
theorem HI.word (h : HI W B e) {i : Nat} (hi : i ≤ W.length) : ∃ b, B[i / 64]? = some b ∧ b < 18446744073709551616 ∧ bitAt B i = b.testBit (i % 64) := by
 have hlt : i / 64 < B.length := by rw [h.bl]; omega
 refine ⟨B[i / 64], List.getElem?_eq_getElem hlt, h.blt _ (List.getElem_mem _), ?_⟩
 unfold bitAt
 rw [List.getElem?_eq_getElem hlt]; rfl
theorem HI.obj (h : HI W B e) {i : Nat} (hi : bitAt B i = true) : ObjAt W B e i (hd W i) := by
 have h1 := h.inn i hi
 have h2 := h.top
 have hlt : i < W.length := by omega
 refine ⟨h1, h2, h.bd, ?_, W[i], List.getElem?_eq_getElem hlt, ?_, h.wlt _ (List.getElem_mem _)⟩
 ·obtain ⟨b, g1, g2, g3⟩ := h.word (i := i) (by omega)
  exact ⟨b, g1, g2, by rw [← g3]; exact hi⟩
 ·unfold hd
  rw [List.getElem?_eq_getElem hlt]; rfl
theorem HI.none (h : HI W B e) {i : Int} (hi : 0 ≤ i → bitAt B i.toNat = false) : NoObj B e i := by
 intro h0 h1
 have h2 := h.top
 obtain ⟨b, g1, g2, g3⟩ := h.word (i := i.toNat) (by omega)
 exact ⟨b, g1, g2, by rw [← g3]; exact hi h0⟩
end Go.EX


set_option linter.unusedVariables false
set_option linter.unusedSimpArgs false
namespace Go.EX
section
variable {code : Nat → Option XFun} {ext : Calls'}
def KnowsLz (code : Nat → Option XFun) (ext : Calls') : Prop := ∀ x : Nat, x < 18446744073709551616 → callW code ext 729 [uint64 x] [] = some (int64 (64 - Lib.bitLen x : Nat), [])
def KnowsTz (code : Nat → Option XFun) (ext : Calls') : Prop := ∀ x : Nat, x < 18446744073709551616 → callW code ext 735 [uint64 x] [] = some (int64 (Lib.ctz 64 x : Nat), [])
theorem shlW (b k : Nat) (h : k ≤ 64) : shiftBin .shl .u64 b k = some (.int .u64 ((b * 2 ^ k % 18446744073709551616 : Nat) : Int)) := by
 have : min ((k : Int).toNat) (IntKind.bits .u64) = k := by simp [IntKind.bits]; omega
 unfold shiftBin
 rw [if_neg (by omega)]
 simp only [this]
 congr 2
theorem zrc (c : Smalls code) (hz : KnowsLz code ext) {W B : List Nat} {e : Nat} (hi : HI W B e) (a : Int) (P : Nat) (hP : P ≤ e) (ha : -9223372036854775808 ≤ a ∧ a ≤ 9223372036854775807) (s : St) (hs : s.tidy [0, 1, 5] = ⟨3, [(0, .optr 0 0), (1, int64 a), (5, int64 P)], hMem W B e⟩) :
  ∃ x s', den code ext (.loop [0, 1, 5] x187L1) s = some (x, s') ∧ x ≠ .normal ∧
   ((x = .exit 0 ∧ NoBits B 0 P ∧ ∃ ev, s' = ⟨3, ev, hMem W B e⟩) ∨
    (x = .ret ∧ ∃ j, j < P ∧ bitAt B j = true ∧ NoBits B (j + 1) P ∧ s' = ⟨3, [(4, avb (decide (a ≤ j + hd W j)))], hMem W B e⟩)) := by
 refine ziu (fun n s => ∃ p, n = p ∧ p ≤ P ∧ NoBits B p P ∧ s.tidy [0, 1, 5] = ⟨3, [(0, .optr 0 0), (1, int64 a), (5, int64 p)], hMem W B e⟩) _ ?_ P s ⟨P, rfl, Nat.le_refl _, fun j h1 h2 => by omega, hs⟩
 clear hs s
 rintro n s ⟨p, rfl, hpP, hno, hs⟩
 rw [hs]
 rcases Nat.eq_zero_or_pos n with rfl | hpos
 ·refine ⟨.exit 0, ⟨3, [(0, .optr 0 0), (1, int64 a), (5, int64 0), (14, avb false)], hMem W B e⟩, ?_, .inr ⟨by simp, .inl ⟨rfl, hno, _, rfl⟩⟩⟩
  simp -implicitDefEqProofs [x187L1]
 ·have htop := hi.top
  have hbd := hi.bd
  obtain ⟨i, rfl⟩ : ∃ i, n = i + 1 := ⟨n - 1, by omega⟩
  obtain ⟨q, r, hq, hr, hr64, e1, e2⟩ := zk7 (i := i) (by omega)
  obtain ⟨b, g1, g2, g3⟩ := hi.word (i := i) (by omega)
  rw [hq] at g1
  have hi' : i = 64 * q + r := by omega
  generalize hp1 : i + 1 = p at *
  have e3 : IntKind.wrap .i64 ((p : Int) - 1) = i := by rw [wrapI64 (by omega) (by omega)]; omega
  have e4 : (0 : Int) < p := by omega
  have e4' : 0 < p := by omega
  obtain ⟨k, hk⟩ : ∃ k, k = 63 - r := ⟨_, rfl⟩
  have e5 : IntKind.wrap .i64 (63 - (r : Int)) = k := by rw [wrapI64 (by omega) (by omega)]; omega
  have e6 := shlW b k (by omega)
  have e7 := zqu g1
  have hqB : q < B.length := (List.getElem?_eq_some_iff.1 g1).1
  have hx : b * 2 ^ (63 - r) % 18446744073709551616 = b * 2 ^ k % 18446744073709551616 := by rw [hk]
  have hxl : b * 2 ^ k % 18446744073709551616 < 18446744073709551616 := Nat.mod_lt _ (by decide)
  generalize b * 2 ^ k % 18446744073709551616 = x at *
  by_cases hx0 : x = 0
  ·subst hx0
   have e8 : IntKind.wrap .i64 ((r : Int) + 1) = (r : Int) + 1 := wrapI64 (by omega) (by omega)
   obtain ⟨p', hp'⟩ : ∃ p', p' = 64 * q := ⟨_, rfl⟩
   have e9 : IntKind.wrap .i64 ((p : Int) - ((r : Int) + 1)) = p' := by rw [wrapI64 (by omega) (by omega)]; omega
   rw [Int.natCast_zero] at e6
   refine ⟨.normal, ⟨3, [(0, .optr 0 0), (1, int64 a), (5, int64 p')], hMem W B e⟩, ?_, .inl ⟨rfl, p', by omega, p', rfl, by omega, fun j h1 h2 => ?_, ?_⟩⟩
   ·simp -implicitDefEqProofs [-intBin, -shiftBin, b_add, b_sub, b_gtr, b_neq, x187L1, e1, e2, e3, e4, e4', e5, e6, e7, e8, e9, hqB]
   ·rcases Nat.lt_or_ge j p with h | h
    ·exact zdd g1 hr64 hx j (by omega) (by omega)
    ·exact hno j h h2
   ·simp -implicitDefEqProofs []
  ·obtain ⟨k1, k2, t, k3, k4, k5, k6⟩ := zde g1 hr64 hx hx0
   obtain ⟨j, hj⟩ : ∃ j, j = 64 * q + t := ⟨_, rfl⟩
   rw [← hj] at k5 k6
   have hzx := hz x hxl
   obtain ⟨z, hzz⟩ : ∃ z, z = 64 - Lib.bitLen x := ⟨_, rfl⟩
   rw [← hzz] at hzx
   have e8 : IntKind.wrap .i64 ((z : Int) + 1) = (z : Int) + 1 := wrapI64 (by omega) (by omega)
   have e9 : IntKind.wrap .i64 ((p : Int) - ((z : Int) + 1)) = j := by rw [wrapI64 (by omega) (by omega)]; omega
   have e10 : ¬ ((x : Int) = 0) := by omega
   obtain ⟨w, w1, w2, w3⟩ := (hi.obj k5).head
   have hsz := zo3 (ext := ext) c.c186 W B e j w (hd W j) w1 w2 w3
   have hin := hi.inn j k5
   have e11 : IntKind.wrap .i64 ((j : Int) + hd W j) = (j : Int) + hd W j := wrapI64 (by omega) (by omega)
   generalize hnn : hd W j = n at w2 hsz hin e11
   refine ⟨.ret, ⟨3, [(4, avb (decide (a ≤ j + n)))], hMem W B e⟩, ?_, .inr ⟨by simp, .inr ⟨rfl, j, by omega, k5, fun j' h1 h2 => ?_, by rw [hnn]⟩⟩⟩
   ·simp -implicitDefEqProofs [-intBin, -shiftBin, b_add, b_sub, b_gtr, b_neq, b_geq, x187L1, e1, e2, e3, e4, e4', e5, e6, e7, e8, e9, e10, e11, hqB, hx0, hzx, hsz]
   ·rcases Nat.lt_or_ge j' p with h | h
    ·exact k6 j' h1 (by omega)
    ·exact hno j' h h2
theorem zrd (c : Smalls code) (h : code 187 = some x187) (hz : KnowsLz code ext) {W B : List Nat} {e : Nat} (hi : HI W B e) (a : Int) (ha : -9223372036854775808 ≤ a ∧ a ≤ 9223372036854775807) :
  ∃ w : Bool, callW code ext 187 [.optr 0 0, int64 a] (hMem W B e) = some (avb w, hMem W B e) ∧ (w = true ↔ 0 < a ∧ ∃ j : Nat, (j : Int) < min a e ∧ bitAt B j = true ∧ NoBits B (j + 1) (min a e).toNat ∧ a ≤ j + hd W j) := by
 have htop := hi.top
 have hbd := hi.bd
 by_cases h0 : 0 < a
 ·obtain ⟨P, hP⟩ : ∃ P : Nat, P = (min a e).toNat := ⟨_, rfl⟩
  have hPi : (P : Int) = min a e := by omega
  obtain ⟨x, s', h1, h2, h3⟩ := zrc (code := code) (ext := ext) c hz hi a P (by omega) ha ⟨3, [(0, .optr 0 0), (1, int64 a), (5, int64 P)], hMem W B e⟩ (by simp -implicitDefEqProofs [])
  have hm : (if (e : Int) < a then (e : Int) else a) = P := by rw [hPi]; split <;> omega
  rcases h3 with ⟨rfl, hno, ev, rfl⟩ | ⟨rfl, j, hj, hb, hno, rfl⟩
  ·refine ⟨false, ?_, by simp; intro _ j hj hb; rw [hno j (by omega) (by omega)] at hb; cases hb⟩
   rw [zbw code ext h]
   simp -implicitDefEqProofs [-intBin, -shiftBin, x187, hm, h1]
  ·refine ⟨decide (a ≤ j + hd W j), ?_, ?_⟩
   ·rw [zbw code ext h]
    simp -implicitDefEqProofs [-intBin, -shiftBin, x187, hm, h1]
   ·rw [decide_eq_true_iff]
    constructor
    ·intro h; exact ⟨h0, j, by omega, hb, by rw [← hP]; exact hno, h⟩
    ·rintro ⟨_, j', g1, g2, g3, g4⟩
     rcases Nat.lt_trichotomy j j' with h | h | h
     ·rw [hno j' (by omega) (by omega)] at g2; cases g2
     ·subst h; exact g4
     ·rw [← hP] at g3; rw [g3 j (by omega) hj] at hb; cases hb
 ·refine ⟨false, ?_, by simp; omega⟩
  have hm : (if (e : Int) < a then (e : Int) else a) = a := by split <;> omega
  have hl : den code ext (.loop [0, 1, 5] x187L1) ⟨3, [(0, .optr 0 0), (1, int64 a), (5, int64 a)], hMem W B e⟩ = some (.exit 0, ⟨3, [(0, .optr 0 0), (1, int64 a), (5, int64 a), (14, avb false)], hMem W B e⟩) := by
   rw [zc3]
   simp -implicitDefEqProofs [x187L1, h0]
  rw [zbw code ext h]
  simp -implicitDefEqProofs [-intBin, -shiftBin, x187, hm, hl]
end
end Go.EX


set_option linter.unusedVariables false
set_option linter.unusedSimpArgs false
namespace Go.EX
section
variable {code : Nat → Option XFun} {ext : Calls'}
abbrev i64v (n : Nat) : IV := .val (.int .i64 (n : Int))
def pcells (l : List Nat) : List AV := l.map fun i => .imm (i64v i)
theorem zkv : ∀ l : List Nat, AV.refs.refsL (pcells l) = []
 | [] => rfl
 | x :: l => by show AV.refs.refsL (.imm (i64v x) :: pcells l) = []; simp [AV.refs.refsL, AV.refs, zkv l]
theorem zkw (f : Nat → Option Nat) : ∀ l : List Nat, AV.ren.renL f (pcells l) = pcells l
 | [] => rfl
 | x :: l => by show AV.ren.renL f (.imm (i64v x) :: pcells l) = _; simp [AV.ren.renL, AV.ren, zkw f l]; rfl
end
end Go.EX


set_option linter.unusedVariables false
set_option linter.unusedSimpArgs false
namespace Go.EX
def placesTo (B : List Nat) (n : Nat) : List Nat := (List.range n).filter (bitAt B)
theorem zld {B : List Nat} {a b : Nat} (h : a ≤ b) (hn : NoBits B a b) : placesTo B b = placesTo B a := by
 obtain ⟨d, rfl⟩ : ∃ d, b = a + d := ⟨b - a, by omega⟩
 clear h
 induction d with
 | zero => rfl
 | succ d ih =>
  have h1 := hn (a + d) (by omega) (by omega)
  unfold placesTo at *
  rw [← Nat.add_assoc, List.range_succ, List.filter_append, ih fun j h2 h3 => hn j h2 (by omega)]
  simp [h1]
theorem zlc {B : List Nat} {a : Nat} (h : bitAt B a = true) : placesTo B (a + 1) = placesTo B a ++ [a] := by
 unfold placesTo
 rw [List.range_succ, List.filter_append]
 simp [h]
section
variable {code : Nat → Option XFun} {ext : Calls'}
def PlShape (pre : List Nat) (out : AV) (tail : Mem) : Prop :=
 (pre = [] ∧ out = nilS ∧ tail = []) ∨ (∃ y, pre = [y] ∧ out = .osl 8 0 1 1 none ∧ tail = [.flat [i64v y] false]) ∨ (2 ≤ pre.length ∧ out = .osl 8 0 1 pre.length none ∧ tail = [.rich (pcells pre)])
abbrev plEnv (a : Nat) : Env := [(0, .yld 0), (2, .optr 2 0), (3, .optr 3 0), (5, int64 a)]
end
end Go.EX


set_option linter.unusedVariables false
set_option linter.unusedSimpArgs false
namespace Go.EX
section
variable {code : Nat → Option XFun} {ext : Calls'}
theorem zat (h : code 179 = some x179) (W B : List Nat) (e : Nat) (lo hi : AV) (hlo : ∃ v, lo = .imm v) (hhi : ∃ v, hi = .imm v) :
  callW code ext 179 [.optr 0 0, lo, hi] (hMem W B e) = some (.clo 180 [.optr 3 0, .optr 4 0, .optr 5 0], hMem W B e ++ [.rich [lo], .rich [hi], .rich [.optr 0 0]]) := by
 obtain ⟨lo, rfl⟩ := hlo
 obtain ⟨hi, rfl⟩ := hhi
 rw [zbw code ext h]
 simp -implicitDefEqProofs [x179]
def plVal (l : List Nat) (k : Nat) : AV × Mem :=
 match l with
 | [] => (nilS, [])
 | [y] => (.osl k 0 1 1 none, [.flat [i64v y] false])
 | l => (.osl k 0 1 l.length none, [.rich (pcells l)])
theorem PlShape.val {l : List Nat} {out : AV} {tail : Mem} (h : PlShape l out tail) : (out, tail) = plVal l 8 := by
 rcases h with ⟨rfl, rfl, rfl⟩ | ⟨y, rfl, rfl, rfl⟩ | ⟨h2, rfl, rfl⟩
 ·rfl
 ·rfl
 ·match l, h2 with
  | _ :: _ :: _, _ => rfl
end
end Go.EX


set_option linter.unusedVariables false
set_option linter.unusedSimpArgs false
namespace Go.EX
def clearBit (B : List Nat) (i : Nat) : List Nat := B.set (i / 64) (minusBits ((B[i / 64]?).getD 0) (2 ^ (i % 64)))
theorem zbl {B : List Nat} {i : Nat} (h : i / 64 < B.length) (j : Nat) : bitAt (clearBit B i) j = (bitAt B j && decide (j ≠ i)) := by
 unfold bitAt clearBit
 rw [List.getElem?_set]
 by_cases hq : i / 64 = j / 64
 ·rw [if_pos hq, if_pos h, ← hq, Option.getD_some, zjb (by omega), Nat.testBit_two_pow]
  by_cases hj : j = i
  ·subst hj; simp
  ·have : i % 64 ≠ j % 64 := by omega
   simp [hj, this]
 ·rw [if_neg hq]
  have : j ≠ i := by rintro rfl; exact hq rfl
  simp [this]
structure Cleared (B : List Nat) (lo hi : Nat) (B' : List Nat) : Prop where
 len : B'.length = B.length
 blt : ∀ b ∈ B', b < 18446744073709551616
 bit : ∀ j, bitAt B' j = (bitAt B j && !(decide (lo ≤ j) && decide (j < hi)))
section
variable {code : Nat → Option XFun} {ext : Calls'}
abbrev fgLoop (b : Nat) : AObj := .loop [(3, .optr b 0)] [11] (.region [3, 6] [⟨(some 6), .mv (.t 11), none⟩]) x181L1 false
abbrev fgMem (W B : List Nat) (e : Nat) : Mem := [fgLoop 1, .rich [.optr 2 0], .rich [.osl 3 0 1 W.length (some W.length), .osl 4 0 1 B.length (some B.length), int64 e], .flat (urow W) false, .flat (urow B) false]
theorem zey (L : AObj) (W B : List Nat) (e : Nat) (x : Nat) (hx : x ≤ 1000000000) (hb : x / 64 < B.length) :
  den code ext x181L1 ⟨5, [(3, .optr 1 0), (6, int64 x)], [L, .rich [.optr 2 0], .rich [.osl 3 0 1 W.length (some W.length), .osl 4 0 1 B.length (some B.length), int64 e], .flat (urow W) false, .flat (urow B) false]⟩ =
   some (.normal, ⟨5, [], [L, .rich [.optr 2 0], .rich [.osl 3 0 1 W.length (some W.length), .osl 4 0 1 B.length (some B.length), int64 e], .flat (urow W) false, .flat (urow (clearBit B x)) false]⟩) := by
 obtain ⟨q, r, hq, hr, hr64, e1, e2⟩ := zk7 (i := x) (by omega)
 unfold clearBit
 rw [hq] at hb
 rw [hq, hr, List.getElem?_eq_getElem hb, Option.getD_some]
 have g1 : B[q]? = some B[q] := List.getElem?_eq_getElem hb
 generalize B[q] = b at g1
 have e3 := zoy hr64
 generalize (2 : Nat) ^ r = pw at *
 have e4 := zay b pw
 generalize minusBits b pw = c at *
 have e5 := zqu g1
 have e6 := zqs g1
 have e7 := zqw B q c
 have e8 := zqv B
 have e9 : q + 1 ≤ B.length := by omega
 simp -implicitDefEqProofs [-intBin, -shiftBin, x181L1, e1, e2, e3, e4, e5, e6, e7, e8, e9, hb, setAll]
theorem ze0 (hy : code yieldNo = none) (W B : List Nat) (e : Nat) (x : Nat) (hx : x ≤ 1000000000) (hb : x / 64 < B.length) :
  callW code ext yieldNo [.yld 0, int64 x] (fgMem W B e) = some (avb true, [fgLoop 1, .rich [.optr 2 0], .rich [.osl 3 0 1 W.length (some W.length), .osl 4 0 1 B.length (some B.length), int64 e], .flat (urow W) false, .flat (urow (clearBit B x)) false]) := by
 rw [zby code ext hy]
 have hb := fun L => zey (code := code) (ext := ext) L W B e x hx hb
 generalize clearBit B x = B' at *
 simp -implicitDefEqProofs [exRound, Env.enterAt, Mem.trim, hb]
abbrev fgBase (W : List Nat) (n : Nat) (B : List Nat) (e : Nat) (lo hi : Nat) : Mem := [fgLoop 4, .rich [int64 lo], .rich [int64 hi], .rich [.optr 5 0], .rich [.optr 5 0], .rich [.osl 6 0 1 W.length (some W.length), .osl 7 0 1 n (some n), int64 e], .flat (urow W) false, .flat (urow B) false]
theorem ze1 (hy : code yieldNo = none) (ht : KnowsTz code ext) {W B : List Nat} {e lo hi : Nat} (n : Nat) (hn : B.length = n) (hbl : ∀ b ∈ B, b < 18446744073709551616) (hhi : hi ≤ 64 * B.length) (hbd : B.length ≤ 1000000) (a : Nat) (hae : a < hi) :
  ∃ x s' a' B', den code ext x180L1 ⟨8, plEnv a, fgBase W n B e lo hi⟩ = some (x, s') ∧ B'.length = B.length ∧ (∀ b ∈ B', b < 18446744073709551616) ∧ (a < a' ∨ x = .ret) ∧ a ≤ a' ∧ a' ≤ 64 * B.length ∧
   (∀ j, bitAt B' j = (bitAt B j && !(decide (a ≤ j) && decide (j < a')))) ∧ NoBits B hi a' ∧
   ((x = .normal ∧ s' = ⟨8, plEnv a', fgBase W n B' e lo hi⟩) ∨ (x = .ret ∧ hi ≤ a' ∧ ∃ ev, s' = ⟨8, ev, fgBase W n B' e lo hi⟩)) := by
 obtain ⟨q, r, hq, hr, hr64, e1, e2⟩ := zk7 (i := a) (by omega)
 have hqB : q < B.length := by omega
 have g1 : B[q]? = some B[q] := List.getElem?_eq_getElem hqB
 have g2 := hbl _ (List.getElem_mem hqB)
 generalize B[q] = b at g1 g2
 have ha : a = 64 * q + r := by omega
 have e3 := zo0 b r (by omega)
 have e4 := zqu g1
 have e5 : (a : Int) < hi := by omega
 have hxl := zdb g2 r
 have hqn : q < n := by omega
 generalize hx : b / 2 ^ r = x at *
 by_cases hx0 : x = 0
 ·subst hx0
  obtain ⟨a', ha'⟩ : ∃ a', a' = 64 * q + 64 := ⟨_, rfl⟩
  have e6 : IntKind.wrap .i64 (64 - (r : Int)) = 64 - (r : Int) := wrapI64 (by omega) (by omega)
  have e7 : IntKind.wrap .i64 ((a : Int) + (64 - (r : Int))) = a' := by rw [wrapI64 (by omega) (by omega)]; omega
  rw [Int.natCast_zero] at e3
  have hno := zqj g1 hr64 hx
  refine ⟨.normal, ⟨8, plEnv a', fgBase W n B e lo hi⟩, a', B, ?_, rfl, hbl, .inl (by omega), by omega, by omega, fun j => ?_, fun j h1 h2 => hno j (by omega) (by omega), .inl ⟨rfl, rfl⟩⟩
  ·simp -implicitDefEqProofs [-intBin, -shiftBin, b_lss, b_sub, b_add, b_eql, x180L1, e1, e2, e3, e4, e5, e6, e7, hqB, hqn, hae]
  ·by_cases h : a ≤ j ∧ j < a'
   ·rw [hno j (by omega) (by omega)]; simp
   ·have : ¬ (decide (a ≤ j) && decide (j < a')) = true := by simpa using h
    simp [this]
 ·obtain ⟨h1, h2, h3⟩ := zqk g1 g2 hr64 hx hx0
  have hz := ht x hxl
  generalize Lib.ctz 64 x = z at *
  rw [← ha] at h2 h3
  obtain ⟨j, hj⟩ : ∃ j, j = a + z := ⟨_, rfl⟩
  rw [← hj] at h2 h3
  have hj64 : j / 64 = q := by omega
  have e6 : IntKind.wrap .i64 ((a : Int) + z) = j := by rw [wrapI64 (by omega) (by omega)]; omega
  have e9 : ¬ ((x : Int) = 0) := by omega
  by_cases hjh : j < hi
  ·have e7 : ¬ ((j : Int) ≥ hi) := by omega
   have e7' : ¬ ((hi : Int) ≤ j) := by omega
   have e7'' : ¬ (hi ≤ j) := by omega
   obtain ⟨a', ha'⟩ : ∃ a', a' = j + 1 := ⟨_, rfl⟩
   have e8 : IntKind.wrap .i64 ((j : Int) + 1) = a' := by rw [wrapI64 (by omega) (by omega)]; omega
   have hR := ze0 (code := code) (ext := ext) hy W B e j (by omega) (by omega)
   simp only [fgMem, hn] at hR
   have hbc := zbl (B := B) (i := j) (by omega)
   have hcl : (clearBit B j).length = B.length := by simp [clearBit]
   have hcb : ∀ b ∈ clearBit B j, b < 18446744073709551616 := by
    intro c hc
    rcases List.mem_or_eq_of_mem_set hc with h | rfl
    ·exact hbl c h
    ·exact zjc _ _
   generalize clearBit B j = B' at *
   refine ⟨.normal, ⟨8, plEnv a', fgBase W n B' e lo hi⟩, a', B', ?_, hcl, hcb, .inl (by omega), by omega, by omega, fun i => ?_, fun i h1 h2 => by omega, .inl ⟨rfl, rfl⟩⟩
   ·simp -implicitDefEqProofs [-intBin, -shiftBin, b_lss, b_sub, b_add, b_eql, b_geq, x180L1, e1, e2, e3, e4, e5, e6, e7, e7', e7'', e8, e9, hqB, hqn, hae, hx0, hz, hR]
   ·rw [hbc i]
    by_cases hij : i = j
    ·subst hij
     have : decide (a ≤ i) && decide (i < a') := by simp; omega
     simp [this]
    ·by_cases h : a ≤ i ∧ i < a'
     ·rw [h3 i (by omega) (by omega)]; simp
     ·have : ¬ (decide (a ≤ i) && decide (i < a')) = true := by simpa using h
      simp [this, hij]
  ·have e7 : ((j : Int) ≥ hi) := by omega
   have e7' : ((hi : Int) ≤ j) := by omega
   have e7'' : (hi ≤ j) := by omega
   refine ⟨.ret, ⟨8, plEnv j ++ [(41, avb true)], fgBase W n B e lo hi⟩, j, B, ?_, rfl, hbl, .inr rfl, by omega, by omega, fun i => ?_, fun i g3 g4 => h3 i (by omega) g4, .inr ⟨rfl, e7'', _, rfl⟩⟩
   ·simp -implicitDefEqProofs [-intBin, -shiftBin, b_lss, b_sub, b_add, b_eql, b_geq, x180L1, e1, e2, e3, e4, e5, e6, e7, e7', e7'', e9, hqB, hqn, hae, hx0, hz]
   ·by_cases h : a ≤ i ∧ i < j
    ·rw [h3 i (by omega) (by omega)]; simp
    ·have : ¬ (decide (a ≤ i) && decide (i < j)) = true := by simpa using h
     simp [this]
end
end Go.EX


set_option linter.unusedVariables false
set_option linter.unusedSimpArgs false
namespace Go.EX
section
variable {code : Nat → Option XFun} {ext : Calls'}
theorem zez (hy : code yieldNo = none) (ht : KnowsTz code ext) {W B : List Nat} {e lo hi n : Nat} (hn : B.length = n) (hbl : ∀ b ∈ B, b < 18446744073709551616) (hhi : hi ≤ 64 * n) (hbd : n ≤ 1000000) (hlob : lo ≤ 100000000) (hlo : NoBits B hi lo) (s : St) (hs : s.tidy [0, 2, 3, 5] = ⟨8, plEnv lo, fgBase W n B e lo hi⟩) :
  ∃ x s', den code ext (.loop [0, 2, 3, 5] x180L1) s = some (x, s') ∧ x ≠ .normal ∧ ((x = .exit 0 ∨ x = .ret) ∧ ∃ B', Cleared B lo hi B' ∧ ∃ ev, s' = ⟨8, ev, fgBase W n B' e lo hi⟩) := by
 refine ziu (fun m s => ∃ a B', (1000000000 < m + a) ∧ a ≤ 100000000 ∧ lo ≤ a ∧ B'.length = n ∧ (∀ b ∈ B', b < 18446744073709551616) ∧ (∀ j, bitAt B' j = (bitAt B j && !(decide (lo ≤ j) && decide (j < a)))) ∧ NoBits B hi a ∧ s.tidy [0, 2, 3, 5] = ⟨8, plEnv a, fgBase W n B' e lo hi⟩) _ ?_ 1000000001 s
  ⟨lo, B, by omega, hlob, by omega, hn, hbl, fun j => by
   have : ¬ (decide (lo ≤ j) && decide (j < lo)) = true := by simp
   simp [this], fun j h1 h2 => hlo j h1 h2, hs⟩
 clear hs s
 rintro m s ⟨a, B1, hm, hab, hlo, hn1, hb1, hbit, hno, hs⟩
 rw [hs]
 have done : ∀ B', (∀ j, bitAt B' j = (bitAt B j && !(decide (lo ≤ j) && decide (j < a)))) → B'.length = n → (∀ b ∈ B', b < 18446744073709551616) → hi ≤ a → NoBits B hi a → Cleared B lo hi B' := by
  intro B' h1 h2 h3 h4 h5
  refine ⟨by rw [h2, hn], h3, fun j => ?_⟩
  rw [h1 j]
  rcases Nat.lt_or_ge j hi with h | h
  ·have g1 : j < a := by omega
   simp [h, g1]
  ·rcases Nat.lt_or_ge j a with g | g
   ·rw [h5 j h g]; rfl
   ·have g1 : ¬ j < a := by omega
    have g2 : ¬ j < hi := by omega
    simp [g1, g2]
 rcases Nat.lt_or_ge a hi with h | h
 ·obtain ⟨x, s', a', B2, g1, g2, g3, g4, g4a, g4b, g5, g6, g7⟩ := ze1 (code := code) (ext := ext) (W := W) (e := e) (lo := lo) hy ht n hn1 hb1 (by omega) (by omega) a h
  have hbit2 : ∀ j, bitAt B2 j = (bitAt B j && !(decide (lo ≤ j) && decide (j < a'))) := by
   intro j
   rw [g5 j, hbit j]
   by_cases h1 : lo ≤ j ∧ j < a'
   ·by_cases h2 : j < a
    ·have h3 : ¬ a ≤ j := by omega
     simp [h1.1, h1.2, h2]
    ·have h3 : a ≤ j := by omega
     simp [h1.1, h1.2, h2, h3]
   ·by_cases h2 : lo ≤ j
    ·have h3 : ¬ j < a' := fun h => h1 ⟨h2, h⟩
     have h4 : ¬ j < a := by omega
     simp [h2, h3, h4]
    ·have h3 : ¬ a ≤ j := by omega
     simp [h2, h3]
  have hno2 : NoBits B hi a' := by
   intro j h1 h2
   rcases Nat.lt_or_ge j a with g | g
   ·exact hno j h1 g
   ·have := g6 j h1 h2
    rw [hbit j] at this
    have g' : ¬ j < a := by omega
    simpa [g'] using this
  rcases g7 with ⟨rfl, rfl⟩ | ⟨rfl, g7, ev, rfl⟩
  ·have g4 : a < a' := g4.resolve_right (by simp)
   exact ⟨.normal, _, g1, .inl ⟨rfl, m - (a' - a), by omega, a', B2, by omega, by omega, by omega, by omega, g3, hbit2, hno2, by simp -implicitDefEqProofs []⟩⟩
  ·refine ⟨.ret, _, g1, .inr ⟨by simp, .inr rfl, B2, ?_, ev, rfl⟩⟩
   refine ⟨by omega, g3, fun j => ?_⟩
   rw [hbit2 j]
   rcases Nat.lt_or_ge j hi with h | h
   ·have g1 : j < a' := by omega
    simp [h, g1]
   ·rcases Nat.lt_or_ge j a' with g | g
    ·rw [hno2 j h g]; rfl
    ·have g1 : ¬ j < a' := by omega
     have g2 : ¬ j < hi := by omega
     simp [g1, g2]
 ·have e1 : ¬ ((a : Int) < hi) := by omega
  have e2 : ¬ (a < hi) := by omega
  refine ⟨.exit 0, ⟨8, plEnv a ++ [(10, avb false)], fgBase W n B1 e lo hi⟩, ?_, .inr ⟨by simp, .inl rfl, B1, done B1 hbit hn1 hb1 h hno, _, rfl⟩⟩
  simp -implicitDefEqProofs [-intBin, -shiftBin, b_lss, x180L1, e1, e2]
end
end Go.EX


set_option linter.unusedVariables false
set_option linter.unusedSimpArgs false
namespace Go.EX
section
variable {code : Nat → Option XFun} {ext : Calls'}
theorem zhm (h : code 180 = some x180) (hy : code yieldNo = none) (ht : KnowsTz code ext) {W B : List Nat} {e lo hi : Nat} (hbl : ∀ b ∈ B, b < 18446744073709551616) (hhi : hi ≤ 64 * B.length) (hbd : B.length ≤ 1000000) (hl : lo ≤ hi) :
  ∃ B', Cleared B lo hi B' ∧ callW code ext 180 [.yld 0, .optr 1 0, .optr 2 0, .optr 3 0] (fgBase W B.length B e lo hi) = some (.tup [], fgBase W B.length B' e lo hi) := by
 obtain ⟨x, s', h1, h2, hx, B', hc, ev, rfl⟩ := zez (code := code) (ext := ext) (W := W) (e := e) (lo := lo) hy ht (n := B.length) rfl hbl hhi hbd (by omega) (fun j h1 h2 => by omega) ⟨8, plEnv lo, fgBase W B.length B e lo hi⟩ (by simp -implicitDefEqProofs [])
 refine ⟨B', hc, ?_⟩
 rw [zbw code ext h]
 rcases hx with rfl | rfl <;> simp -implicitDefEqProofs [x180, h1]
theorem zfr (h : code 181 = some x181) (h179 : code 179 = some x179) (h180 : code 180 = some x180) (hy : code yieldNo = none) (ht : KnowsTz code ext) {W B : List Nat} {e lo hi : Nat} (hbl : ∀ b ∈ B, b < 18446744073709551616) (hhi : hi ≤ 64 * B.length) (hbd : B.length ≤ 1000000) (hl : lo ≤ hi) :
  ∃ B', Cleared B lo hi B' ∧ callW code ext 181 [.optr 0 0, int64 lo, int64 hi] (hMem W B e) = some (.tup [], hMem W B' e) := by
 obtain ⟨B', hc, hit⟩ := zhm (code := code) (ext := ext) (W := W) (e := e) h180 hy ht hbl hhi hbd hl
 refine ⟨B', hc, ?_⟩
 have ha := zat (ext := ext) h179 W B e (int64 lo) (int64 hi) ⟨_, rfl⟩ ⟨_, rfl⟩
 have hst : x181L1.still = true := rfl
 have hlen := hc.len
 simp only [fgBase] at hit
 rw [zbw code ext h]
 simp -implicitDefEqProofs [x181, ha, zc5, exRange, XCode.still, hst, hit, hlen]
end
end Go.EX


set_option linter.unusedVariables false
set_option linter.unusedSimpArgs false
namespace Go.EX
def setBit (B : List Nat) (i : Nat) : List Nat := B.set (i / 64) ((B[i / 64]?).getD 0 ||| 2 ^ (i % 64))
theorem zbn {B : List Nat} {i : Nat} (h : i / 64 < B.length) (j : Nat) : bitAt (setBit B i) j = (bitAt B j || decide (j = i)) := by
 unfold bitAt setBit
 rw [List.getElem?_set]
 by_cases hq : i / 64 = j / 64
 ·rw [if_pos hq, if_pos h, ← hq, Option.getD_some, Nat.testBit_or, Nat.testBit_two_pow]
  by_cases hj : j = i
  ·subst hj; simp
  ·have : i % 64 ≠ j % 64 := by omega
   simp [hj, this]
 ·rw [if_neg hq]
  have : j ≠ i := by rintro rfl; exact hq rfl
  simp [this]
theorem zon {B : List Nat} {i : Nat} (h : ∀ b ∈ B, b < 18446744073709551616) : ∀ b ∈ setBit B i, b < 18446744073709551616 := by
 intro c hc
 rcases List.mem_or_eq_of_mem_set hc with h1 | rfl
 ·exact h c h1
 ·refine Nat.or_lt_two_pow (n := 64) ?_ (Nat.pow_lt_pow_right (by decide) (by omega))
  cases hq : B[i / 64]? with
  | none => decide
  | some b => exact h b (List.mem_of_getElem? hq)
section
variable {code : Nat → Option XFun} {ext : Calls'}
structure Heaps (code : Nat → Option XFun) (ext : Calls') : Prop where
 small : Smalls code
 c169 : code 169 = some x169
 c170 : code 170 = some x170
 c172 : code 172 = some x172
 c173 : code 173 = some x173
 c174 : code 174 = some x174
 c175 : code 175 = some x175
 c176 : code 176 = some x176
 c177 : code 177 = some x177
 c178 : code 178 = some x178
 c179 : code 179 = some x179
 c180 : code 180 = some x180
 c181 : code 181 = some x181
 c187 : code 187 = some x187
 c567 : code 567 = some x567
 yld : code yieldNo = none
 lz : KnowsLz code ext
 tz : KnowsTz code ext
theorem cut_ok (c : Heaps code ext) {W B : List Nat} {e : Nat} (hi : HI W B e) (a : Nat) (h1 : a ≤ e) (hw : callW code ext 187 [.optr 0 0, int64 a] (hMem W B e) = some (avb false, hMem W B e)) :
  ∃ B', Cleared B a e B' ∧ callW code ext 170 [.optr 0 0, int64 a] (hMem W B e) = some (int64 0, hMem W B' a) := by
 have hg := zgi (ext := ext) c.small.c182 W B e hi.pos
 have hbl := hi.bl
 have hbd := hi.bd
 have htop := hi.top
 obtain ⟨B', hc, hf⟩ := zfr (code := code) (ext := ext) (W := W) (e := e) c.c181 c.c179 c.c180 c.yld c.tz (lo := a) (hi := e) hi.blt (by omega) (by omega) h1
 refine ⟨B', hc, ?_⟩
 have hlen := hc.len
 have h0 : ¬ ((a : Int) < 0) := by omega
 have h2 : ¬ ((e : Int) < a) := by omega
 have h3 : ¬ (e < a) := by omega
 simp only [hMem, hlen] at hf
 rw [zbw code ext c.c170]
 simp -implicitDefEqProofs [-intBin, b_lss, b_gtr, x170, hg, h0, h2, h3, hw, hf, hlen]
theorem zqt {W : List Nat} {i n : Nat} (h : i + n ≤ W.length) : cut (urow W) i n = some (urow ((W.drop i).take n)) := by
 refine cut_mk (by simp [urow]) ?_
 rw [zqv]; simp; omega
theorem zjj (c : Heaps code ext) {W B : List Nat} {e : Nat} (hi : HI W B e) (i t N : Nat) (hb : bitAt B i = true) (hN : N = hd W i + 1) (ht : t ≤ i)
  (hw : callW code ext 187 [.optr 0 0, int64 t] (hMem W B e) = some (avb false, hMem W B e)) :
  ∃ B', Cleared B t (i + 1) B' ∧ callW code ext 172 [.optr 0 0, int64 i, int64 t] (hMem W B e) = some (int64 0, hMem (setAll W t ((W.drop i).take N)) (setBit B' t) e) := by
 have hg := zgi (ext := ext) c.small.c182 W B e hi.pos
 have ho := hi.obj hb
 have his := is_obj (ext := ext) c.small ho
 have hbl := hi.bl
 have hbd := hi.bd
 have htop := hi.top
 have hin := hi.inn i hb
 obtain ⟨w, w1, w2, w3⟩ := ho.head
 have hsz := zo3 (ext := ext) c.small.c186 W B e i w (hd W i) w1 w2 w3
 generalize hd W i = n at *
 obtain ⟨B', hc, hf⟩ := zfr (code := code) (ext := ext) (W := W) (e := e) c.c181 c.c179 c.c180 c.yld c.tz (lo := t) (hi := i + 1) hi.blt (by omega) (by omega) (by omega)
 refine ⟨B', hc, ?_⟩
 have hlen := hc.len
 have h0 : ¬ ((t : Int) < 0) := by omega
 have h2 : ¬ ((i : Int) < t) := by omega
 have h3 : ¬ (i < t) := by omega
 obtain ⟨i1, hi1⟩ : ∃ i1, i1 = i + 1 := ⟨_, rfl⟩
 rw [← hi1] at hf
 have e1 : IntKind.wrap .i64 ((i : Int) + 1) = i1 := by rw [wrapI64 (by omega) (by omega)]; omega
 have e2 : IntKind.wrap .i64 ((n : Int) + 1) = N := by rw [wrapI64 (by omega) (by omega)]; omega
 have e3 : IntKind.wrap .i64 ((t : Int) + N) = (t + N : Nat) := by rw [wrapI64 (by omega) (by omega)]; omega
 have e4 : IntKind.wrap .i64 ((i : Int) + N) = (i + N : Nat) := by rw [wrapI64 (by omega) (by omega)]; omega
 obtain ⟨tN, htN⟩ : ∃ tN, tN = t + N := ⟨_, rfl⟩
 obtain ⟨iN, hiN⟩ : ∃ iN, iN = i + N := ⟨_, rfl⟩
 rw [← htN] at e3
 rw [← hiN] at e4
 have f1 : (0 : Int) ≤ t := by omega
 have f2 : (t : Int) ≤ tN := by omega
 have f2' : t ≤ tN := by omega
 have f3 : (tN : Int) ≤ W.length := by omega
 have f3' : tN ≤ W.length := by omega
 have f4 : tN - t = N := by omega
 have f5 : (0 : Int) ≤ i := by omega
 have f6 : (i : Int) ≤ iN := by omega
 have f6' : i ≤ iN := by omega
 have f7 : (iN : Int) ≤ W.length := by omega
 have f7' : iN ≤ W.length := by omega
 have f8 : iN - i = N := by omega
 have f9 : ¬ N = 0 := by omega
 have k1 := zqt (W := W) (i := i) (n := N) (by omega)
 have k2 : ((W.drop i).take N).length = N := by simp; omega
 generalize (W.drop i).take N = L at *
 have k3 := zom L W t
 have k4 := zqv W
 have k5 := zqv L
 rw [k2] at k5
 have k6 : t + N ≤ W.length := by omega
 have k7 : (setAll W t L).length = W.length := zoj _ _ _
 obtain ⟨q, r, hq, hr, hr64, q1, q2⟩ := zk7 (i := t) (by omega)
 have hqB' : q < B.length := by omega
 have hqB : q < B'.length := by omega
 have g1 : B'[q]? = some B'[q] := List.getElem?_eq_getElem hqB
 have g2 := hc.blt _ (List.getElem_mem hqB)
 unfold setBit
 rw [hq, hr, g1, Option.getD_some]
 generalize B'[q] = b at *
 have s3 := zoy hr64
 have hp : (2 : Nat) ^ r < 18446744073709551616 := Nat.pow_lt_pow_right (by decide) hr64
 have s4 := or_bin g2 hp
 generalize (2 : Nat) ^ r = pw at *
 generalize b ||| pw = bo at *
 have s5 := zqu g1
 have s6 := zqs g1
 have s7 := zqw B' q bo
 have s8 := zqv B'
 rw [hlen] at s8
 have s9 : q + 1 ≤ B.length := by omega
 simp only [hMem, hlen] at hf
 rw [zbw code ext c.c172]
 simp -implicitDefEqProofs [-intBin, -shiftBin, b_lss, b_gtr, b_add, x172, hg, his, hsz, h0, h2, h3, hw, hf, hlen, e1, e2, e3, e4, f1, f2, f2', f3, f3', f4, f5, f6, f6', f7, f7', f8, f9, k1, k2, k3, k4, k5, k6, k7, q1, q2, hqB, hqB', s3, s4, s5, s6, s7, s8, s9, exSlice, bounds, shorten, elems, setAll]
end
end Go.EX


set_option linter.unusedVariables false
set_option linter.unusedSimpArgs false
namespace Go.EX
theorem zgq {W : List Nat} {i j v : Nat} (h : i ≠ j) : hd (W.set i v) j = hd W j := by
 unfold hd; rw [List.getElem?_set_ne h]
theorem zgp {W L : List Nat} {t j : Nat} (hl : t + L.length ≤ W.length) : hd (setAll W t L) j = if t ≤ j ∧ j < t + L.length then hd L (j - t) else hd W j := by
 unfold hd
 rw [zoh _ _ _ _ hl]
 split <;> rfl
theorem zja {L W : List Nat} {t : Nat} {x : Nat} (hx : x ∈ setAll W t L) : x ∈ W ∨ x ∈ L := by
 induction L generalizing W t with
 | nil => exact .inl hx
 | cons y L ih =>
  rcases ih hx with h | h
  ·rcases List.mem_or_eq_of_mem_set h with h | rfl
   ·exact .inl h
   ·exact .inr (List.mem_cons_self ..)
  ·exact .inr (List.mem_cons_of_mem _ h)
theorem zbo (k j : Nat) : bitAt (List.replicate k 0) j = false := by
 unfold bitAt
 rw [List.getElem?_replicate]
 split <;> simp
theorem HI.new (n : Nat) (h1 : 1 ≤ n) (h2 : n ≤ 1048576) : HI (List.replicate n 0) (List.replicate (n / 64 + 1) 0) 0 := by
 refine ⟨by simpa using h1, by simpa using h2, by simp, by simp, fun w hw => ?_, fun b hb => ?_, fun i hi => ?_, fun i j hi => ?_⟩
 ·rw [(List.mem_replicate.1 hw).2]; decide
 ·rw [(List.mem_replicate.1 hb).2]; decide
 ·rw [zbo] at hi; cases hi
 ·rw [zbo] at hi; cases hi
variable {W B : List Nat} {e : Nat}
theorem HI.q (h : HI W B e) {i : Nat} (hi : i ≤ W.length) : i / 64 < B.length := by rw [h.bl]; omega
theorem HI.write (h : HI W B e) {i k v : Nat} (hi : bitAt B i = true) (hk : k < hd W i) (hv : v < 18446744073709551616) : HI (W.set (i + 1 + k) v) B e := by
 have hne : ∀ j, bitAt B j = true → i + 1 + k ≠ j := by
  rintro j hj rfl
  have := h.apart i (i + 1 + k) hi hj (by omega)
  omega
 refine ⟨by simpa using h.pos, by simpa using h.bd, by simpa using h.bl, by simpa using h.top, fun w hw => ?_, h.blt, fun j hj => ?_, fun j l hj hl hjl => ?_⟩
 ·rcases List.mem_or_eq_of_mem_set hw with h1 | rfl
  ·exact h.wlt w h1
  ·exact hv
 ·rw [zgq (hne j hj)]; exact h.inn j hj
 ·rw [zgq (hne j hj)]; exact h.apart j l hj hl hjl
theorem HI.alloc (h : HI W B e) {n k : Nat} (hk : k < 256) (hn : n + e < W.length) : HI (setAll (W.set e (n * 256 + k)) (e + 1) (List.replicate n 0)) (setBit B e) (e + n + 1) := by
 have htop := h.top
 have hbd := h.bd
 have hl : e + 1 + (List.replicate n 0).length ≤ (W.set e (n * 256 + k)).length := by simp; omega
 have hhd : ∀ j, j < e → hd (setAll (W.set e (n * 256 + k)) (e + 1) (List.replicate n 0)) j = hd W j := by
  intro j hj
  rw [zgp hl, if_neg (by omega), zgq (by omega)]
 have hhe : hd (setAll (W.set e (n * 256 + k)) (e + 1) (List.replicate n 0)) e = n := by
  rw [zgp hl, if_neg (by omega)]
  unfold hd
  rw [List.getElem?_set_self (by omega)]
  show (n * 256 + k) / 256 = n
  omega
 have hbit := zbn (h.q htop)
 have old : ∀ j, bitAt B j = true → j < e := fun j hj => by have := h.inn j hj; omega
 refine ⟨by rw [zoj]; simpa using h.pos, by rw [zoj]; simpa using h.bd, by rw [zoj]; simpa [setBit] using h.bl, by rw [zoj]; simp; omega, fun w hw => ?_, zon h.blt, fun j hj => ?_, fun j l hj hl hjl => ?_⟩
 ·rcases zja hw with hw | hw
  ·rcases List.mem_or_eq_of_mem_set hw with h1 | rfl
   ·exact h.wlt w h1
   ·omega
  ·rw [(List.mem_replicate.1 hw).2]; decide
 ·rw [hbit] at hj
  rcases Bool.or_eq_true_iff.1 hj with hj | hj
  ·rw [hhd j (old j hj)]; have := h.inn j hj; omega
  ·have : j = e := by simpa using hj
   subst this
   rw [hhe]; omega
 ·rw [hbit] at hj hl
  rcases Bool.or_eq_true_iff.1 hj with hj1 | hj1
  ·rw [hhd j (old j hj1)]
   rcases Bool.or_eq_true_iff.1 hl with hl1 | hl1
   ·exact h.apart j l hj1 hl1 hjl
   ·have : l = e := by simpa using hl1
    rw [this]
    exact h.inn j hj1
  ·have : j = e := by simpa using hj1
   subst this
   rcases Bool.or_eq_true_iff.1 hl with hl1 | hl1
   ·have := old l hl1; omega
   ·have : l = j := by simpa using hl1
    omega
def Clear (W B : List Nat) (a : Nat) : Prop := ∀ j, j < a → bitAt B j = true → j + 1 + hd W j ≤ a
theorem zh4 (B : List Nat) : ∀ (a : Nat), (∃ j, j < a ∧ bitAt B j = true) → ∃ j, j < a ∧ bitAt B j = true ∧ NoBits B (j + 1) a := by
 intro a
 induction a with
 | zero => rintro ⟨j, h, _⟩; omega
 | succ a ih =>
  rintro ⟨j, h, hb⟩
  cases hq : bitAt B a with
  | true => exact ⟨a, by omega, hq, fun i h1 h2 => by omega⟩
  | false =>
   have : j ≠ a := by rintro rfl; rw [hq] at hb; cases hb
   obtain ⟨l, h1, h2, h3⟩ := ih ⟨j, by omega, hb⟩
   refine ⟨l, by omega, h2, fun i g1 g2 => ?_⟩
   rcases Nat.lt_or_ge i a with g | g
   ·exact h3 i g1 g
   ·obtain rfl : i = a := by omega
    exact hq
theorem HI.clear_iff (h : HI W B e) {a : Nat} (ha : a ≤ e) : Clear W B a ↔ ¬ (0 < (a : Int) ∧ ∃ j : Nat, (j : Int) < min (a : Int) e ∧ bitAt B j = true ∧ NoBits B (j + 1) (min (a : Int) e).toNat ∧ (a : Int) ≤ j + hd W j) := by
 have hm : (min (a : Int) e).toNat = a := by omega
 have hm2 : min (a : Int) e = a := by omega
 rw [hm, hm2]
 constructor
 ·rintro hc ⟨_, j, h1, h2, _, h4⟩
  have := hc j (by omega) h2
  omega
 ·intro hn j hj hb
  obtain ⟨l, h1, h2, h3⟩ := zh4 B a ⟨j, hj, hb⟩
  have h5 : ¬ ((a : Int) ≤ l + hd W l) := fun hh => hn ⟨by omega, l, by omega, h2, h3, hh⟩
  rcases Nat.lt_trichotomy j l with g | g | g
  ·have := h.apart j l hb h2 g; omega
  ·subst g; omega
  ·rw [h3 j (by omega) hj] at hb; cases hb
theorem HI.cut (h : HI W B e) {a : Nat} (ha : a ≤ e) (hc : Clear W B a) {B' : List Nat} (hB : Cleared B a e B') : HI W B' a := by
 have hbit : ∀ j, bitAt B' j = true → bitAt B j = true ∧ j < a := by
  intro j hj
  rw [hB.bit, Bool.and_eq_true] at hj
  refine ⟨hj.1, ?_⟩
  have h1 := h.inn j hj.1
  have h2 := hj.2
  simp at h2
  omega
 refine ⟨h.pos, h.bd, by rw [hB.len]; exact h.bl, Nat.le_trans ha h.top, h.wlt, hB.blt, fun j hj => ?_, fun j l hj hl => h.apart j l (hbit j hj).1 (hbit l hl).1⟩
 obtain ⟨h1, h2⟩ := hbit j hj
 exact hc j h2 h1
theorem HI.move (h : HI W B e) {i t : Nat} (hi : bitAt B i = true) (ht : t ≤ i) (hc : Clear W B t) {B' : List Nat} (hB : Cleared B t (i + 1) B') :
  HI (setAll W t ((W.drop i).take (hd W i + 1))) (setBit B' t) e ∧ (∀ j, bitAt (setBit B' t) j = ((bitAt B j && !(decide (t ≤ j) && decide (j < i + 1))) || decide (j = t))) := by
 have htop := h.top
 have hin := h.inn i hi
 have hL : ((W.drop i).take (hd W i + 1)).length = hd W i + 1 := by simp; omega
 have hl : t + ((W.drop i).take (hd W i + 1)).length ≤ W.length := by rw [hL]; omega
 have hhd : ∀ j, (j < t ∨ t + hd W i + 1 ≤ j) → hd (setAll W t ((W.drop i).take (hd W i + 1))) j = hd W j := by
  intro j hj
  rw [zgp hl, if_neg (by rw [hL]; omega)]
 have hht : hd (setAll W t ((W.drop i).take (hd W i + 1))) t = hd W i := by
  rw [zgp hl, if_pos (by rw [hL]; omega), Nat.sub_self]
  unfold hd
  rw [List.getElem?_take, if_pos (by omega), List.getElem?_drop, Nat.add_zero]
 have hbit : ∀ j, bitAt (setBit B' t) j = ((bitAt B j && !(decide (t ≤ j) && decide (j < i + 1))) || decide (j = t)) := by
  intro j
  rw [zbn (by rw [hB.len]; exact h.q (by omega)), hB.bit]
 have cases_ : ∀ j, bitAt (setBit B' t) j = true → (bitAt B j = true ∧ j < t) ∨ j = t ∨ (bitAt B j = true ∧ i + 1 + hd W i ≤ j) := by
  intro j hj
  rw [hbit] at hj
  rcases Bool.or_eq_true_iff.1 hj with hj | hj
  ·rw [Bool.and_eq_true] at hj
   have h2 := hj.2
   simp at h2
   rcases Nat.lt_or_ge j t with g | g
   ·exact .inl ⟨hj.1, g⟩
   ·exact .inr (.inr ⟨hj.1, h.apart i j hi hj.1 (by omega)⟩)
  ·exact .inr (.inl (by simpa using hj))
 refine ⟨⟨by rw [zoj]; exact h.pos, by rw [zoj]; exact h.bd, by rw [zoj]; simpa [setBit, hB.len] using h.bl, by rw [zoj]; exact htop, fun w hw => ?_, zon hB.blt, fun j hj => ?_, fun j l hj hl' hjl => ?_⟩, hbit⟩
 ·rcases zja hw with hw | hw
  ·exact h.wlt w hw
  ·exact h.wlt w (List.mem_of_mem_drop (List.mem_of_mem_take hw))
 ·rcases cases_ j hj with ⟨h1, h2⟩ | rfl | ⟨h1, h2⟩
  ·rw [hhd j (.inl h2)]; exact h.inn j h1
  ·rw [hht]; omega
  ·rw [hhd j (.inr (by omega))]; exact h.inn j h1
 ·rcases cases_ j hj with ⟨h1, h2⟩ | rfl | ⟨h1, h2⟩
  ·rw [hhd j (.inl h2)]
   have := hc j h2 h1
   rcases cases_ l hl' with ⟨g1, g2⟩ | rfl | ⟨g1, g2⟩
   ·exact h.apart j l h1 g1 hjl
   ·exact this
   ·omega
  ·rw [hht]
   rcases cases_ l hl' with ⟨g1, g2⟩ | rfl | ⟨g1, g2⟩
   ·omega
   ·omega
   ·omega
  ·rw [hhd j (.inr (by omega))]
   rcases cases_ l hl' with ⟨g1, g2⟩ | rfl | ⟨g1, g2⟩
   ·omega
   ·omega
   ·exact h.apart j l h1 g1 hjl
end Go.EX


set_option linter.unusedVariables false
set_option linter.unusedSimpArgs false
namespace Go.EX
def packL : List UInt8 → Nat
 | [] => 0
 | b :: r => b.toNat + 256 * packL r
theorem zkr : ∀ l : List UInt8, packL l < 256 ^ l.length
 | [] => by simp [packL]
 | b :: r => by
  have h := zkr r
  have hb : b.toNat < 256 := b.toNat_lt
  simp only [packL, List.length_cons, Nat.pow_succ]
  omega
theorem zks {l : List UInt8} (h : l.length ≤ 8) : packL l < 18446744073709551616 := by
 have h1 := zkr l
 have h2 : 256 ^ l.length ≤ 256 ^ 8 := Nat.pow_le_pow_right (by decide) h
 have h3 : (256 : Nat) ^ 8 = 18446744073709551616 := by decide
 omega
def tW (s : List UInt8) (j : Nat) : Nat := packL ((s.drop (8 * j)).take 8)
theorem tW_lt (s : List UInt8) (j : Nat) : tW s j < 18446744073709551616 := zks (by rw [List.length_take]; omega)
def tN (s : List UInt8) : Nat := (s.length + 7) / 8
structure TextAt (W B : List Nat) (e a : Nat) (s : List UInt8) : Prop where
 bit : bitAt B a = true
 top : a + 2 + tN s ≤ e
 head : W[a]? = some ((1 + tN s) * 256 + 3)
 len : W[a + 1]? = some s.length
 word : ∀ j, j < tN s → W[a + 2 + j]? = some (tW s j)
theorem TextAt.more {W B : List Nat} {e a : Nat} {s : List UInt8} (h : TextAt W B e a s) {W' B' : List Nat} {e' : Nat} (he : e ≤ e') (hw : ∀ i, i < e → W'[i]? = W[i]?) (hb : ∀ i, i < e → bitAt B' i = bitAt B i) : TextAt W' B' e' a s := by
 have ht := h.top
 refine ⟨by rw [hb a (by omega)]; exact h.bit, by omega, by rw [hw a (by omega)]; exact h.head, by rw [hw (a + 1) (by omega)]; exact h.len, fun j hj => by rw [hw _ (by omega)]; exact h.word j hj⟩
theorem TextAt.obj {W B : List Nat} {e a : Nat} {s : List UInt8} (h : TextAt W B e a s) (hi : HI W B e) : ObjAt W B e a (1 + tN s) := by
 have := hi.obj h.bit
 have hh : hd W a = 1 + tN s := by
  unfold hd
  rw [h.head]
  simp only [Option.getD_some]
  omega
 rwa [hh] at this
structure Making (W0 B0 : List Nat) (e : Nat) (s : List UInt8) (j : Nat) (W B : List Nat) : Prop where
 hi : HI W B (e + 2 + tN s)
 bit : bitAt B e = true
 head : W[e]? = some ((1 + tN s) * 256 + 3)
 len : W[e + 1]? = some s.length
 word : ∀ i, i < j → W[e + 2 + i]? = some (tW s i)
 old : ∀ i, i < e → W[i]? = W0[i]?
 bits : ∀ i, i < e → bitAt B i = bitAt B0 i
 sz : W.length = W0.length
theorem Making.hd {W0 B0 W B : List Nat} {e j : Nat} {s : List UInt8} (h : Making W0 B0 e s j W B) : hd W e = 1 + tN s := by
 unfold Go.EX.hd
 rw [h.head]
 simp only [Option.getD_some]
 omega
theorem Making.obj {W0 B0 W B : List Nat} {e j : Nat} {s : List UInt8} (h : Making W0 B0 e s j W B) : ObjAt W B (e + 2 + tN s) e (1 + tN s) := by
 have := h.hi.obj h.bit
 rwa [h.hd] at this
theorem Making.text {W0 B0 W B : List Nat} {e : Nat} {s : List UInt8} (h : Making W0 B0 e s (tN s) W B) : TextAt W B (e + 2 + tN s) e s :=
 ⟨h.bit, Nat.le_refl _, h.head, h.len, h.word⟩
theorem Making.step {W0 B0 W B : List Nat} {e j : Nat} {s : List UInt8} (h : Making W0 B0 e s j W B) (hj : j < tN s) : Making W0 B0 e s (j + 1) (W.set (e + 1 + (1 + j)) (tW s j)) B := by
 have hhi := h.hi.write h.bit (k := 1 + j) (v := tW s j) (by rw [h.hd]; omega) (tW_lt s j)
 have htop := h.hi.top
 refine ⟨hhi, h.bit, ?_, ?_, fun i hi => ?_, fun i hi => ?_, h.bits, by rw [List.length_set]; exact h.sz⟩
 ·rw [List.getElem?_set_ne (by omega)]; exact h.head
 ·rw [List.getElem?_set_ne (by omega)]; exact h.len
 ·by_cases hij : i = j
  ·subst hij
   rw [show e + 1 + (1 + i) = e + 2 + i by omega, List.getElem?_set_self (by omega)]
  ·rw [List.getElem?_set_ne (by omega)]; exact h.word i (by omega)
 ·rw [List.getElem?_set_ne (by omega)]; exact h.old i hi
theorem Making.start {W B : List Nat} {e : Nat} (hi : HI W B e) (s : List UInt8) (hn : 1 + tN s + e < W.length) (hs : s.length < 18446744073709551616) :
  Making W B e s 0 ((setAll (W.set e ((1 + tN s) * 256 + 3)) (e + 1) (List.replicate (1 + tN s) 0)).set (e + 1 + 0) s.length) (setBit B e) := by
 have h1 := hi.alloc (n := 1 + tN s) (k := 3) (by decide) hn
 have hbl := hi.bl
 have hbit : e / 64 < B.length := by omega
 have hb : ∀ j, bitAt (setBit B e) j = (bitAt B j || decide (j = e)) := zbn hbit
 have hbe : bitAt (setBit B e) e = true := by rw [hb]; simp
 have hlen : (setAll (W.set e ((1 + tN s) * 256 + 3)) (e + 1) (List.replicate (1 + tN s) 0)).length = W.length := by rw [zoj, List.length_set]
 have hget : ∀ i, i ≤ e → (setAll (W.set e ((1 + tN s) * 256 + 3)) (e + 1) (List.replicate (1 + tN s) 0))[i]? = (W.set e ((1 + tN s) * 256 + 3))[i]? := by
  intro i hle
  rw [zoi, if_neg (by omega)]
 have hhead : (setAll (W.set e ((1 + tN s) * 256 + 3)) (e + 1) (List.replicate (1 + tN s) 0))[e]? = some ((1 + tN s) * 256 + 3) := by
  rw [hget e (Nat.le_refl _), List.getElem?_set_self (by omega)]
 have hhd : Go.EX.hd (setAll (W.set e ((1 + tN s) * 256 + 3)) (e + 1) (List.replicate (1 + tN s) 0)) e = 1 + tN s := by
  unfold Go.EX.hd
  rw [hhead]
  simp only [Option.getD_some]
  omega
 have h2 := h1.write hbe (k := 0) (v := s.length) (by rw [hhd]; omega) hs
 rw [show e + (1 + tN s) + 1 = e + 2 + tN s by omega] at h2
 refine ⟨h2, hbe, ?_, ?_, fun i hi => absurd hi (by omega), fun i hlt => ?_, fun i hlt => ?_, by rw [List.length_set]; exact hlen⟩
 ·rw [List.getElem?_set_ne (by omega)]; exact hhead
 ·rw [Nat.add_zero, List.getElem?_set_self (by omega)]
 ·rw [List.getElem?_set_ne (by omega), hget i (by omega), List.getElem?_set_ne (by omega)]
 ·rw [hb]
  have : i ≠ e := by omega
  simp [this]
end Go.EX

