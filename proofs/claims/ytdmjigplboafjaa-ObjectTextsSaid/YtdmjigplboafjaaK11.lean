import Derived.Test.YtdmjigplboafjaaK10
import Derived.Test.YtdmjigplboafjaaK9
import Derived.Lib.TrailingZeros
import Derived.Lib.ItoaNum
import Derived.KernelRfl
set_option linter.unusedVariables false
set_option linter.unusedSimpArgs false
namespace Go.EX
theorem place64 {i : Nat} (h : i ≤ 1000000000) : ∃ q r : Nat, i / 64 = q ∧ i % 64 = r ∧ r < 64 ∧ IntKind.wrap .i64 ((i : Int).tdiv 64) = q ∧ IntKind.wrap .i64 ((i : Int) / 64) = q ∧ (i : Int).tmod 64 = r ∧ (i : Int) % 64 = r := by
 refine ⟨i / 64, i % 64, rfl, rfl, by omega, ?_, ?_, ?_, ?_⟩
 ·rw [Int.tdiv_eq_ediv_of_nonneg (by omega), wrapI64 (by omega) (by omega)]; omega
 ·rw [wrapI64 (by omega) (by omega)]; omega
 ·rw [Int.tmod_eq_emod_of_nonneg (by omega)]; omega
 ·omega
theorem shrNat (a j : Nat) (h : j ≤ 64) : (a : Int).fdiv (2 ^ (min ((j : Int).toNat) (IntKind.bits .u64))) = ((a / 2 ^ j : Nat) : Int) := by
 have : min ((j : Int).toNat) (IntKind.bits .u64) = j := by simp [IntKind.bits]; omega
 rw [this, Int.fdiv_eq_ediv_of_nonneg _ (Int.pow_nonneg (by decide))]
 simp
theorem wrapU64N {a : Nat} (h : a < 18446744073709551616) : IntKind.wrap .u64 (a : Int) = (a : Int) := wrapU64 (by omega) (by omega)
theorem ofIntN (a : Nat) : BitVec.ofInt 64 (a : Int) = BitVec.ofNat 64 a := by simp
theorem andNat {a b : Nat} (ha : a < 18446744073709551616) (hb : b < 18446744073709551616) : IntKind.wrap .u64 ((BitVec.ofInt 64 (a : Int) &&& BitVec.ofInt 64 (b : Int)).toNat : Int) = ((a &&& b : Nat) : Int) := by
 rw [ofIntN, ofIntN, BitVec.toNat_and, BitVec.toNat_ofNat, BitVec.toNat_ofNat, Nat.mod_eq_of_lt ha, Nat.mod_eq_of_lt hb]
 exact wrapU64N (Nat.lt_of_le_of_lt Nat.and_le_left ha)
theorem orNat {a b : Nat} (ha : a < 18446744073709551616) (hb : b < 18446744073709551616) : IntKind.wrap .u64 ((BitVec.ofInt 64 (a : Int) ||| BitVec.ofInt 64 (b : Int)).toNat : Int) = ((a ||| b : Nat) : Int) := by
 rw [ofIntN, ofIntN, BitVec.toNat_or, BitVec.toNat_ofNat, BitVec.toNat_ofNat, Nat.mod_eq_of_lt ha, Nat.mod_eq_of_lt hb]
 exact wrapU64N (Nat.or_lt_two_pow (n := 64) ha hb)
theorem shl1 {j : Nat} (h : j < 64) : IntKind.wrap .u64 (1 * 2 ^ (min ((j : Int).toNat) (IntKind.bits .u64))) = ((2 ^ j : Nat) : Int) := by
 have : min ((j : Int).toNat) (IntKind.bits .u64) = j := by simp [IntKind.bits]; omega
 have h2 : (2 : Nat) ^ j < 2 ^ 64 := Nat.pow_lt_pow_right (by decide) h
 rw [this, Int.one_mul]
 have := wrapU64N (a := 2 ^ j) h2
 simpa using this
theorem zba (a j : Nat) : decide ((((a / 2 ^ j) &&& 1 : Nat) : Int) = 1) = a.testBit j := by
 rw [Nat.and_one_is_mod, ← Nat.shiftRight_eq_div_pow]
 unfold Nat.testBit
 rw [Nat.and_comm, Nat.and_one_is_mod]
 by_cases h : (a >>> j) % 2 = 1
 ·simp [h]
 ·have : (a >>> j) % 2 = 0 := by omega
  simp [this]
theorem zck {a : Nat} (h : a < 18446744073709551616) (j : Nat) : a / 2 ^ j < 18446744073709551616 := Nat.lt_of_le_of_lt (Nat.div_le_self ..) h
abbrev u64v (n : Nat) : IV := .val (.int .u64 (n : Int))
abbrev uint64 (n : Nat) : AV := .imm (u64v n)
def bitAt (B : List Nat) (i : Nat) : Bool := ((B[i / 64]?).getD 0).testBit (i % 64)
def urow (B : List Nat) : List IV := B.map u64v
theorem znw {B : List Nat} {i b : Nat} (h : B[i]? = some b) : (urow B)[i]? = some (u64v b) := by simp [urow, h]
theorem znv {B : List Nat} {i b : Nat} (h : B[i]? = some b) : ∀ hh : i < (urow B).length, (urow B)[i] = u64v b := fun hh => by
 have := znw h
 rw [List.getElem?_eq_getElem hh] at this
 exact Option.some.inj this
theorem znx (B : List Nat) : (urow B).length = B.length := by simp [urow]
theorem zny (B : List Nat) (i b : Nat) : (urow B).set i (u64v b) = urow (B.set i b) := by simp [urow]
abbrev hMem (W B : List Nat) (e : Nat) : Mem := [.rich [.osl 1 0 1 W.length (some W.length), .osl 2 0 1 B.length (some B.length), int64 e], .flat (urow W) false, .flat (urow B) false]
theorem b_add (k : IntKind) (a b : Int) : intBin .add k a b = some (.int k (k.wrap (a + b))) := rfl
theorem b_sub (k : IntKind) (a b : Int) : intBin .sub k a b = some (.int k (k.wrap (a - b))) := rfl
theorem b_eql (k : IntKind) (a b : Int) : intBin .eql k a b = some (.bool (a == b)) := rfl
theorem b_neq (k : IntKind) (a b : Int) : intBin .neq k a b = some (.bool (a != b)) := rfl
theorem b_lss (k : IntKind) (a b : Int) : intBin .lss k a b = some (.bool (a < b)) := rfl
theorem b_leq (k : IntKind) (a b : Int) : intBin .leq k a b = some (.bool (a ≤ b)) := rfl
theorem b_gtr (k : IntKind) (a b : Int) : intBin .gtr k a b = some (.bool (a > b)) := rfl
theorem b_geq (k : IntKind) (a b : Int) : intBin .geq k a b = some (.bool (a ≥ b)) := rfl
theorem zi3 {i : Nat} (h : i ≤ 1000000000) : ∃ q r : Nat, i / 64 = q ∧ i % 64 = r ∧ r < 64 ∧ intBin .quo .i64 i 64 = some (.int .i64 q) ∧ intBin .rem .i64 i 64 = some (.int .i64 r) := by
 obtain ⟨q, r, h1, h2, h3, h4, _, h5, _⟩ := place64 h
 exact ⟨q, r, h1, h2, h3, by simp only [intBin, h4]; rfl, by simp only [intBin, h5]; rfl⟩
theorem zma (a j : Nat) (h : j ≤ 64) : shiftBin .shr .u64 a j = some (.int .u64 (a / 2 ^ j : Nat)) := by
 unfold shiftBin
 rw [if_neg (by omega), shrNat a j h]
theorem zl8 {j : Nat} (h : j < 64) : shiftBin .shl .u64 1 j = some (.int .u64 (2 ^ j : Nat)) := by
 unfold shiftBin
 rw [if_neg (by omega), shl1 h]
theorem zaq {a b : Nat} (ha : a < 18446744073709551616) (hb : b < 18446744073709551616) : intBin .and .u64 a b = some (.int .u64 (a &&& b : Nat)) := by
 unfold intBin
 rw [← andNat ha hb]; rfl
theorem zbb (b r : Nat) (hb : b < 18446744073709551616) (hr : r < 64) : ∃ c g : Nat, shiftBin .shr .u64 b r = some (.int .u64 c) ∧ intBin .and .u64 c 1 = some (.int .u64 g) ∧ decide ((g : Int) = 1) = b.testBit r :=
 ⟨_, _, zma b r (by omega), zaq (zck hb r) (b := 1) (by decide), zba b r⟩
theorem or_bin {a b : Nat} (ha : a < 18446744073709551616) (hb : b < 18446744073709551616) : intBin .or .u64 a b = some (.int .u64 (a ||| b : Nat)) := by
 unfold intBin
 rw [← orNat ha hb]; rfl
end Go.EX


set_option linter.unusedVariables false
set_option linter.unusedSimpArgs false
namespace Go.EX
section
variable {code : Nat → Option XFun} {ext : Calls'}
theorem is_yes (h : code 183 = some x183) (W B : List Nat) (e i b : Nat) (hi : i < e) (hb : B[i / 64]? = some b) (hlt : b < 18446744073709551616) (hbd : e ≤ 1000000000) :
  callW code ext 183 [.optr 0 0, int64 i] (hMem W B e) = some (avb (b.testBit (i % 64)), hMem W B e) := by
 rw [zbk code ext h]
 have h0 : (0 : Int) ≤ i := by omega
 have h1 : (i : Int) < e := by omega
 obtain ⟨q, r, hq, hr, hr64, e1, e2⟩ := zi3 (i := i) (by omega)
 rw [hq] at hb
 rw [hr]
 have h4 := znw hb
 have h5 : q < B.length := (List.getElem?_eq_some_iff.1 hb).1
 obtain ⟨c, g, h7, h8, h9⟩ := zbb b r hlt hr64
 simp -implicitDefEqProofs [-intBin, -shiftBin, b_geq, b_lss, b_eql, x183, h0, h1, e1, e2, h4, h5, h7, h8, h9]
theorem is_no (h : code 183 = some x183) (W B : List Nat) (e : Nat) (i : Int) (hi : ¬ (0 ≤ i ∧ i < e)) :
  callW code ext 183 [.optr 0 0, int64 i] (hMem W B e) = some (avb false, hMem W B e) := by
 rw [zbk code ext h]
 by_cases h0 : 0 ≤ i
 ·have h1 : ¬ i < e := fun h => hi ⟨h0, h⟩
  simp -implicitDefEqProofs [x183, h0, h1]
 ·simp -implicitDefEqProofs [x183, h0]
end
end Go.EX


set_option linter.unusedVariables false
set_option linter.unusedSimpArgs false
namespace Go.EX
section
variable {code : Nat → Option XFun} {ext : Calls'}
theorem zew (h : code 182 = some x182) (W B : List Nat) (e : Nat) (hW : 1 ≤ W.length) : callW code ext 182 [.optr 0 0] (hMem W B e) = some (avb false, hMem W B e) := by
 rw [zbk code ext h]
 have h1 : ¬ ((W.length : Int) = 0) := by omega
 have h2 : W ≠ [] := by rintro rfl; simp at hW
 simp -implicitDefEqProofs [x182, h1, h2]
theorem znz (h : code 176 = some x176) (W B : List Nat) (e : Nat) : callW code ext 176 [.optr 0 0] (hMem W B e) = some (int64 e, hMem W B e) := by
 rw [zbk code ext h]
 simp -implicitDefEqProofs [x176]
theorem zn8 (h : code 177 = some x177) (W B : List Nat) (e : Nat) : callW code ext 177 [.optr 0 0] (hMem W B e) = some (int64 W.length, hMem W B e) := by
 rw [zbk code ext h]
 simp -implicitDefEqProofs [x177]
theorem zmb (w : Nat) : shiftBin .shr .u64 w 8 = some (.int .u64 ((w / 256 : Nat) : Int)) := zma w 8 (by omega)
theorem zmd (h : code 186 = some x186) (W B : List Nat) (e i w n : Nat) (hw : W[i]? = some w) (hn : w / 256 = n) (hlt : w < 18446744073709551616) :
  callW code ext 186 [.optr 0 0, int64 i] (hMem W B e) = some (int64 n, hMem W B e) := by
 rw [zbk code ext h]
 have h1 := znw hw
 have h2 : (i : Int) < W.length := by have := (List.getElem?_eq_some_iff.1 hw).1; omega
 have h3 := zmb w
 rw [hn] at h3
 have h4 : IntKind.wrap .i64 (n : Int) = n := wrapI64 (by omega) (by omega)
 have h5 : i < W.length := by omega
 simp -implicitDefEqProofs [-shiftBin, x186, h1, h2, h3, h4, h5]
abbrev ownSl (W : List Nat) (i n : Nat) : AV := .osl 1 (i + 1) 1 n (some (W.length - (i + 1)))
theorem zih (h : code 186 = some x186) (h' : code 185 = some x185) (W B : List Nat) (e i w n : Nat) (hw : W[i]? = some w) (hn : w / 256 = n) (hlt : w < 18446744073709551616) (hi : i + 1 + n ≤ W.length) (hbd : W.length ≤ 1048576) :
  callW code ext 185 [.optr 0 0, int64 i] (hMem W B e) = some (ownSl W i n, hMem W B e) := by
 have h1 := zmd (ext := ext) h W B e i w n hw hn hlt
 rw [zbk code ext h']
 have e1 : IntKind.wrap .i64 ((i : Int) + 1) = (i : Int) + 1 := wrapI64 (by omega) (by omega)
 have e2 : IntKind.wrap .i64 ((i : Int) + 1 + n) = (i : Int) + 1 + n := wrapI64 (by omega) (by omega)
 have e3 : (i : Int) + 1 ≤ (i : Int) + 1 + n := by omega
 have e4 : (i : Int) + 1 + n ≤ W.length := by omega
 have e5 : (0 : Int) ≤ (i : Int) + 1 := by omega
 have e6 : ((i : Int) + 1).toNat = i + 1 := by omega
 have e7 : ((i : Int) + 1 + n).toNat = i + 1 + n := by omega
 have e8 : i + 1 + n - (i + 1) = n := by omega
 simp -implicitDefEqProofs [x185, h1, e1, e2, e3, e4, e5, e6, e7, e8, exSlice, bounds]
end
end Go.EX


set_option linter.unusedVariables false
set_option linter.unusedSimpArgs false
namespace Go.EX
structure ObjAt (W B : List Nat) (e i n : Nat) : Prop where
 lt : i + 1 + n ≤ e
 top : e ≤ W.length
 bd : W.length ≤ 1048576
 bit : ∃ b, B[i / 64]? = some b ∧ b < 18446744073709551616 ∧ b.testBit (i % 64) = true
 head : ∃ w, W[i]? = some w ∧ w / 256 = n ∧ w < 18446744073709551616
def NoObj (B : List Nat) (e : Nat) (i : Int) : Prop := 0 ≤ i → i < e → ∃ b, B[i.toNat / 64]? = some b ∧ b < 18446744073709551616 ∧ b.testBit (i.toNat % 64) = false
section
variable {code : Nat → Option XFun} {ext : Calls'}
structure Smalls (code : Nat → Option XFun) : Prop where
 c182 : code 182 = some x182
 c183 : code 183 = some x183
 c184 : code 184 = some x184
 c185 : code 185 = some x185
 c186 : code 186 = some x186
theorem is_obj (c : Smalls code) {W B : List Nat} {e i n : Nat} (o : ObjAt W B e i n) : callW code ext 183 [.optr 0 0, int64 i] (hMem W B e) = some (avb true, hMem W B e) := by
 obtain ⟨b, h1, h2, h3⟩ := o.bit
 rw [is_yes c.c183 W B e i b (by have := o.lt; omega) h1 h2 (by have := o.top; have := o.bd; omega), h3]
theorem zfo (c : Smalls code) {W B : List Nat} {e : Nat} {i : Int} (he : e ≤ 1048576) (o : NoObj B e i) : callW code ext 183 [.optr 0 0, int64 i] (hMem W B e) = some (avb false, hMem W B e) := by
 by_cases h : 0 ≤ i ∧ i < e
 ·obtain ⟨b, h1, h2, h3⟩ := o h.1 h.2
  obtain ⟨k, rfl⟩ : ∃ k : Nat, i = k := ⟨i.toNat, by omega⟩
  rw [is_yes c.c183 W B e k b (by omega) (by simpa using h1) h2 (by omega)]
  rw [Int.toNat_natCast] at h3
  rw [h3]
 ·exact is_no c.c183 W B e i h
theorem zgp (c : Smalls code) {W B : List Nat} {e i n : Nat} (o : ObjAt W B e i n) :
  callW code ext 184 [.optr 0 0, int64 i] (hMem W B e) = some (.tup [ownSl W i n, int64 0], hMem W B e) := by
 obtain ⟨w, w1, w2, w3⟩ := o.head
 have h1 := zew (ext := ext) c.c182 W B e (by have := o.lt; have := o.top; omega)
 have h2 := is_obj (ext := ext) c o
 have h3 := zih (ext := ext) c.c186 c.c185 W B e i w n w1 w2 w3 (by have := o.lt; have := o.top; omega) o.bd
 rw [zbk code ext c.c184]
 simp -implicitDefEqProofs [x184, h1, h2, h3]
theorem zgo (c : Smalls code) {W B : List Nat} {e : Nat} {i : Int} (hW : 1 ≤ W.length) (he : e ≤ 1048576) (o : NoObj B e i) :
  callW code ext 184 [.optr 0 0, int64 i] (hMem W B e) = some (.tup [nilS, int64 1], hMem W B e) := by
 have h1 := zew (ext := ext) c.c182 W B e hW
 have h2 := zfo (ext := ext) (W := W) c he o
 rw [zbk code ext c.c184]
 simp -implicitDefEqProofs [x184, h1, h2]
theorem zjx (c : Smalls code) (h : code 174 = some x174) {W B : List Nat} {e i n : Nat} (o : ObjAt W B e i n) {k v : Nat} (hk : k < n) (hv : W[i + 1 + k]? = some v) :
  callW code ext 174 [.optr 0 0, int64 i, int64 k] (hMem W B e) = some (.tup [uint64 v, int64 0], hMem W B e) := by
 have h1 := zgp (ext := ext) c o
 have h2 := znw hv
 have e1 : ¬ ((k : Int) < 0) := by omega
 have e2 : ¬ ((k : Int) ≥ n) := by omega
 have e3 : (k : Int) < n := by omega
 rw [zbk code ext h]
 simp -implicitDefEqProofs [x174, h1, h2, e1, e2, e3, hk]
theorem zoc (c : Smalls code) (h : code 178 = some x178) {W B : List Nat} {e i n : Nat} (o : ObjAt W B e i n) {k v : Nat} (hk : k < n) :
  callW code ext 178 [.optr 0 0, int64 i, int64 k, uint64 v] (hMem W B e) = some (int64 0, hMem (W.set (i + 1 + k) v) B e) := by
 have h1 := zgp (ext := ext) c o
 have h2 := zny W (i + 1 + k) v
 have h3 := znx W
 have e1 : ¬ ((k : Int) < 0) := by omega
 have e2 : ¬ ((k : Int) ≥ n) := by omega
 have e3 : (k : Int) < n := by omega
 have e4 : i + 1 + k + 1 ≤ W.length := by have := o.lt; have := o.top; omega
 have e5 : i + 1 + k < W.length := by omega
 rw [zbk code ext h]
 simp -implicitDefEqProofs [x178, h1, h2, h3, e1, e2, e3, e4, e5, hk]
 simp [setAll, h2]
theorem zmc (c : Smalls code) (h : code 175 = some x175) {W B : List Nat} {e i n : Nat} (o : ObjAt W B e i n) :
  callW code ext 175 [.optr 0 0, int64 i] (hMem W B e) = some (.tup [int64 n, int64 0], hMem W B e) := by
 have h1 := zgp (ext := ext) c o
 rw [zbk code ext h]
 simp -implicitDefEqProofs [x175, h1]
end
end Go.EX


set_option linter.unusedVariables false
set_option linter.unusedSimpArgs false
namespace Go.EX
section
variable {code : Nat → Option XFun} {ext : Calls'}
theorem zb3 (n : Nat) : copies n [u64v 0] = urow (List.replicate n 0) := by
 induction n with
 | zero => rfl
 | succ n ih => simp only [copies, ih, urow, List.replicate_succ, List.map_cons, List.singleton_append]
theorem zb4 (n : Nat) : copies n [IV.val (Value.int .u64 0)] = urow (List.replicate n 0) := zb3 n
theorem new_ok (h : code 567 = some x567) (n : Nat) (h1 : 1 ≤ n) (h2 : n ≤ 1048576) :
  callW code ext 567 [int64 n] [] = some (.tup [.optr 0 0, int64 0], hMem (List.replicate n 0) (List.replicate (n / 64 + 1) 0) 0) := by
 rw [zbk code ext h]
 obtain ⟨q, r, hq, hr, hr64, e1, e2⟩ := zi3 (i := n) (by omega)
 have e3 : ¬ ((n : Int) < 1) := by omega
 have e4 : ¬ ((n : Int) > 1048576) := by omega
 have e4' : ¬ (1048576 < (n : Int)) := by omega
 have e5 : (0 : Int) ≤ n := by omega
 have e6 : 8 * (n : Int) ≤ 281474976710656 := by omega
 have e7 : (n : Int) ≤ 9223372036854775807 := by omega
 have e8 : IntKind.wrap .i64 ((q : Int) + 1) = (q : Int) + 1 := wrapI64 (by omega) (by omega)
 have f5 : (0 : Int) ≤ (q : Int) + 1 := by omega
 have f6 : 8 * ((q : Int) + 1) ≤ 281474976710656 := by omega
 have f7 : (q : Int) + 1 ≤ 9223372036854775807 := by omega
 have f8 : ((q : Int) + 1).toNat = q + 1 := by omega
 have g1 := zb4 n
 have g2 := zb4 (q + 1)
 rw [hq]
 simp -implicitDefEqProofs [-intBin, b_add, b_lss, b_gtr, x567, e1, e2, e3, e4, e4', e5, e6, e7, e8, f5, f6, f7, f8, g1, g2]
end
end Go.EX


set_option linter.unusedVariables false
set_option linter.unusedSimpArgs false
namespace Go.EX
section
variable {code : Nat → Option XFun} {ext : Calls'}
theorem zbw (n : Nat) : imms ((copies n [Value.int .u64 0]).map fun z => AV.imm (IV.val z)) = some (urow (List.replicate n 0)) := by
 have : (copies n [Value.int .u64 0]).map (fun z => AV.imm (IV.val z)) = (urow (List.replicate n 0)).map AV.imm := by
  induction n with
  | zero => rfl
  | succ n ih =>
   have h : urow (List.replicate (n + 1) 0) = u64v 0 :: urow (List.replicate n 0) := by simp only [urow, List.replicate_succ, List.map_cons]
   rw [h]
   simp only [copies, List.singleton_append, List.map_cons, ih]
   rfl
 rw [this, imms_imm]
theorem zlw : ∀ (l W : List Nat) (o : Nat), setAll (urow W) o (urow l) = urow (setAll W o l)
 | [], W, o => rfl
 | x :: l, W, o => by
  show setAll ((urow W).set o (u64v x)) (o + 1) (urow l) = _
  rw [zny, zlw l]; rfl
theorem ze4 {n k : Nat} (hn : n ≤ 1048576) (hk : k < 256) : shiftBin .shl .u64 n 8 = some (.int .u64 ((n * 256 : Nat) : Int)) ∧ intBin .or .u64 ((n * 256 : Nat) : Int) k = some (.int .u64 ((n * 256 + k : Nat) : Int)) := by
 constructor
 ·unfold shiftBin
  rw [if_neg (by decide)]
  show some (Value.int IntKind.u64 (IntKind.wrap .u64 ((n : Int) * 2 ^ 8))) = _
  rw [wrapU64 (by omega) (by omega)]
  norm_cast
 ·rw [or_bin (by omega) (by omega)]
  congr 2
  have := Nat.two_pow_add_eq_or_of_lt (b := k) (i := 8) hk n
  rw [Nat.mul_comm] at this
  rw [← this]
theorem zap (c : Smalls code) (h : code 169 = some x169) {W B : List Nat} {e n k b : Nat} (hk : 3 ≤ k) (hk2 : k ≤ 8) (hn : n + e < W.length) (hbd : W.length ≤ 1048576) (hb : B[e / 64]? = some b) (hb2 : b < 18446744073709551616) :
  callW code ext 169 [.optr 0 0, .imm (.val (.int .u8 k)), int64 n] (hMem W B e) =
   some (.tup [int64 e, int64 0], hMem (setAll (W.set e (n * 256 + k)) (e + 1) (List.replicate n 0)) (B.set (e / 64) (b ||| 2 ^ (e % 64))) (e + n + 1)) := by
 have hg := zew (ext := ext) c.c182 W B e (by omega)
 obtain ⟨q, r, hq, hr, hr64, e1, e2⟩ := zi3 (i := e) (by omega)
 rw [hq] at hb
 rw [hq, hr]
 obtain ⟨s1, s2⟩ := ze4 (n := n) (k := k) (by omega) (by omega)
 have hlast : (n * 256 + k) / 256 = n := by omega
 have hlt : n * 256 + k < 18446744073709551616 := by omega
 have hlen2 : (setAll (W.set e (n * 256 + k)) (e + 1) (List.replicate n 0)).length = W.length := by rw [zlu]; simp
 generalize hH : n * 256 + k = H at *
 generalize n * 256 = N8 at *
 have s3 := zl8 hr64
 have hp : (2 : Nat) ^ r < 18446744073709551616 := Nat.pow_lt_pow_right (by decide) hr64
 have s4 := or_bin hb2 hp
 generalize (2 : Nat) ^ r = pw at *
 have s5 := znw hb
 have s5' := znv hb
 generalize hbo : b ||| pw = bo at *
 have hqB : q < B.length := (List.getElem?_eq_some_iff.1 hb).1
 have t1 : ¬ ((k : Int) < 3) := by omega
 have t2 : ¬ ((k : Int) > 8) := by omega
 have t2' : ¬ (8 < (k : Int)) := by omega
 have t3 : ¬ ((n : Int) < 0) := by omega
 have t4 : IntKind.wrap .i64 ((W.length : Int) - e) = (W.length : Int) - e := wrapI64 (by omega) (by omega)
 have t5 : ¬ ((n : Int) ≥ (W.length : Int) - e) := by omega
 have t5' : ¬ ((W.length : Int) - e ≤ n) := by omega
 have t5'' : ¬ ((W.length : Int) ≤ n + e) := by omega
 have t6 : IntKind.wrap .u64 (n : Int) = n := wrapU64 (by omega) (by omega)
 have t7 : IntKind.wrap .u64 (k : Int) = k := wrapU64 (by omega) (by omega)
 have t8 : (0 : Int) ≤ e := by omega
 have t9 : (e : Int) < W.length := by omega
 have t9' : e < W.length := by omega
 have t10 : e + 1 ≤ W.length := by omega
 have t11 : q + 1 ≤ B.length := by omega
 have t12 : IntKind.wrap .i64 ((n : Int) + 1) = (n : Int) + 1 := wrapI64 (by omega) (by omega)
 generalize hE : e + n + 1 = E at *
 have t13 : IntKind.wrap .i64 ((e : Int) + ((n : Int) + 1)) = E := by rw [wrapI64 (by omega) (by omega)]; omega
 have u1 := zny W e H
 have u2 := zny B q bo
 have u3 := znx W
 have u4 := znx B
 have hown := zih (ext := ext) c.c186 c.c185 (W.set e H) (B.set q bo) E e H n (by simp [t9']) hlast hlt (by simp; omega) (by simp; omega)
 simp only [hMem, List.length_set, ownSl] at hown
 have v1 := zbw n
 have v2 := zlw (List.replicate n 0) (W.set e H) (e + 1)
 have v3 : e + 1 + n ≤ W.length := by omega
 have v4 := znx (W.set e H)
 have v5 := znx (List.replicate n 0)
 rw [List.length_set] at v4
 rw [List.length_replicate] at v5
 rw [zbk code ext h]
 by_cases hn0 : n = 0
 ·subst hn0
  simp only [Int.natCast_zero, Int.zero_add] at s1 t3 t5 t5' t5'' t6 t12 t13
  have w1 : ¬ ((W.length : Int) - e ≤ 0) := by omega
  have w2 : ¬ ((W.length : Int) ≤ e) := by omega
  have w3 : ¬ (W.length ≤ e) := by omega
  have w4 : IntKind.wrap .u64 0 = 0 := by decide
  have w5 : IntKind.wrap .i64 1 = 1 := by decide
  simp -implicitDefEqProofs [-intBin, -shiftBin, b_add, b_sub, b_lss, b_gtr, b_geq, x169, hg, e1, e2, s1, s2, s3, s4, s5, s5', hqB, t1, t2, t2', t3, t4, t5, t5', t5'', t6, t7, t8, t9, t9', t10, t11, t12, t13, u1, u2, u3, u4, hown, setAll, hlen2, w1, w2, w3, w4, w5]
 ·simp -implicitDefEqProofs [-intBin, -shiftBin, b_add, b_sub, b_lss, b_gtr, b_geq, x169, hg, e1, e2, s1, s2, s3, s4, s5, s5', hqB, t1, t2, t2', t3, t4, t5, t5', t5'', t6, t7, t8, t9, t9', t10, t11, t12, t13, u1, u2, u3, u4, hown, hn0, v1, v2, v3, v4, v5, setAll, hlen2]
end
end Go.EX


set_option linter.unusedVariables false
set_option linter.unusedSimpArgs false
namespace Go.EX
def hd (W : List Nat) (i : Nat) : Nat := (W[i]?).getD 0 / 256
structure HI (W B : List Nat) (e : Nat) : Prop where
 pos : 1 ≤ W.length
 bd : W.length ≤ 1048576
 bl : B.length = W.length / 64 + 1
 top : e ≤ W.length
 wlt : ∀ w ∈ W, w < 18446744073709551616
 blt : ∀ b ∈ B, b < 18446744073709551616
 inn : ∀ i, bitAt B i = true → i + 1 + hd W i ≤ e
 apart : ∀ i j, bitAt B i = true → bitAt B j = true → i < j → i + 1 + hd W i ≤ j
variable {W B : List Nat} {e : Nat}
theorem HI.word (h : HI W B e) {i : Nat} (hi : i ≤ W.length) : ∃ b, B[i / 64]? = some b ∧ b < 18446744073709551616 ∧ bitAt B i = b.testBit (i % 64) := by
 have hlt : i / 64 < B.length := by rw [h.bl]; omega
 refine ⟨B[i / 64], List.getElem?_eq_getElem hlt, h.blt _ (List.getElem_mem _), ?_⟩
 unfold bitAt
 rw [List.getElem?_eq_getElem hlt]; rfl
theorem HI.obj (h : HI W B e) {i : Nat} (hi : bitAt B i = true) : ObjAt W B e i (hd W i) := by
 have h1 := h.inn i hi
 have h2 := h.top
 have hlt : i < W.length := by omega
 refine ⟨h1, h2, h.bd, ?_, W[i], List.getElem?_eq_getElem hlt, ?_, h.wlt _ (List.getElem_mem _)⟩
 ·obtain ⟨b, g1, g2, g3⟩ := h.word (i := i) (by omega)
  exact ⟨b, g1, g2, by rw [← g3]; exact hi⟩
 ·unfold hd
  rw [List.getElem?_eq_getElem hlt]; rfl
theorem HI.none (h : HI W B e) {i : Int} (hi : 0 ≤ i → bitAt B i.toNat = false) : NoObj B e i := by
 intro h0 h1
 have h2 := h.top
 obtain ⟨b, g1, g2, g3⟩ := h.word (i := i.toNat) (by omega)
 exact ⟨b, g1, g2, by rw [← g3]; exact hi h0⟩
end Go.EX


set_option linter.unusedVariables false
set_option linter.unusedSimpArgs false
namespace Go.EX
section
variable {code : Nat → Option XFun} {ext : Calls'}
abbrev i64v (n : Nat) : IV := .val (.int .i64 (n : Int))
def pcells (l : List Nat) : List AV := l.map fun i => .imm (i64v i)
end
end Go.EX


set_option linter.unusedVariables false
set_option linter.unusedSimpArgs false
namespace Go.EX
section
variable {code : Nat → Option XFun} {ext : Calls'}
def PlShape (pre : List Nat) (out : AV) (tail : Mem) : Prop :=
 (pre = [] ∧ out = nilS ∧ tail = []) ∨ (∃ y, pre = [y] ∧ out = .osl 8 0 1 1 none ∧ tail = [.flat [i64v y] false]) ∨ (2 ≤ pre.length ∧ out = .osl 8 0 1 pre.length none ∧ tail = [.rich (pcells pre)])
end
end Go.EX


set_option linter.unusedVariables false
set_option linter.unusedSimpArgs false
namespace Go.EX
section
variable {code : Nat → Option XFun} {ext : Calls'}
def plVal (l : List Nat) (k : Nat) : AV × Mem :=
 match l with
 | [] => (nilS, [])
 | [y] => (.osl k 0 1 1 none, [.flat [i64v y] false])
 | l => (.osl k 0 1 l.length none, [.rich (pcells l)])
theorem PlShape.val {l : List Nat} {out : AV} {tail : Mem} (h : PlShape l out tail) : (out, tail) = plVal l 8 := by
 rcases h with ⟨rfl, rfl, rfl⟩ | ⟨y, rfl, rfl, rfl⟩ | ⟨h2, rfl, rfl⟩
 ·rfl
 ·rfl
 ·match l, h2 with
  | _ :: _ :: _, _ => rfl
end
end Go.EX


set_option linter.unusedVariables false
set_option linter.unusedSimpArgs false
namespace Go.EX
structure Cleared (B : List Nat) (lo hi : Nat) (B' : List Nat) : Prop where
 len : B'.length = B.length
 blt : ∀ b ∈ B', b < 18446744073709551616
 bit : ∀ j, bitAt B' j = (bitAt B j && !(decide (lo ≤ j) && decide (j < hi)))
section
variable {code : Nat → Option XFun} {ext : Calls'}
end
end Go.EX


set_option linter.unusedVariables false
set_option linter.unusedSimpArgs false
namespace Go.EX
def setBit (B : List Nat) (i : Nat) : List Nat := B.set (i / 64) ((B[i / 64]?).getD 0 ||| 2 ^ (i % 64))
theorem za8 {B : List Nat} {i : Nat} (h : i / 64 < B.length) (j : Nat) : bitAt (setBit B i) j = (bitAt B j || decide (j = i)) := by
 unfold bitAt setBit
 rw [List.getElem?_set]
 by_cases hq : i / 64 = j / 64
 ·rw [if_pos hq, if_pos h, ← hq, Option.getD_some, Nat.testBit_or, Nat.testBit_two_pow]
  by_cases hj : j = i
  ·subst hj; simp
  ·have : i % 64 ≠ j % 64 := by omega
   simp [hj, this]
 ·rw [if_neg hq]
  have : j ≠ i := by rintro rfl; exact hq rfl
  simp [this]
theorem zlx {B : List Nat} {i : Nat} (h : ∀ b ∈ B, b < 18446744073709551616) : ∀ b ∈ setBit B i, b < 18446744073709551616 := by
 intro c hc
 rcases List.mem_or_eq_of_mem_set hc with h1 | rfl
 ·exact h c h1
 ·refine Nat.or_lt_two_pow (n := 64) ?_ (Nat.pow_lt_pow_right (by decide) (by omega))
  cases hq : B[i / 64]? with
  | none => decide
  | some b => exact h b (List.mem_of_getElem? hq)
section
variable {code : Nat → Option XFun} {ext : Calls'}
end
end Go.EX


set_option linter.unusedVariables false
set_option linter.unusedSimpArgs false
namespace Go.EX
theorem ze2 {W : List Nat} {i j v : Nat} (h : i ≠ j) : hd (W.set i v) j = hd W j := by
 unfold hd; rw [List.getElem?_set_ne h]
theorem ze1 {W L : List Nat} {t j : Nat} (hl : t + L.length ≤ W.length) : hd (setAll W t L) j = if t ≤ j ∧ j < t + L.length then hd L (j - t) else hd W j := by
 unfold hd
 rw [zls _ _ _ _ hl]
 split <;> rfl
theorem zg6 {L W : List Nat} {t : Nat} {x : Nat} (hx : x ∈ setAll W t L) : x ∈ W ∨ x ∈ L := by
 induction L generalizing W t with
 | nil => exact .inl hx
 | cons y L ih =>
  rcases ih hx with h | h
  ·rcases List.mem_or_eq_of_mem_set h with h | rfl
   ·exact .inl h
   ·exact .inr (List.mem_cons_self ..)
  ·exact .inr (List.mem_cons_of_mem _ h)
theorem za9 (k j : Nat) : bitAt (List.replicate k 0) j = false := by
 unfold bitAt
 rw [List.getElem?_replicate]
 split <;> simp
theorem HI.new (n : Nat) (h1 : 1 ≤ n) (h2 : n ≤ 1048576) : HI (List.replicate n 0) (List.replicate (n / 64 + 1) 0) 0 := by
 refine ⟨by simpa using h1, by simpa using h2, by simp, by simp, fun w hw => ?_, fun b hb => ?_, fun i hi => ?_, fun i j hi => ?_⟩
 ·rw [(List.mem_replicate.1 hw).2]; decide
 ·rw [(List.mem_replicate.1 hb).2]; decide
 ·rw [za9] at hi; cases hi
 ·rw [za9] at hi; cases hi
variable {W B : List Nat} {e : Nat}
theorem HI.q (h : HI W B e) {i : Nat} (hi : i ≤ W.length) : i / 64 < B.length := by rw [h.bl]; omega
theorem HI.write (h : HI W B e) {i k v : Nat} (hi : bitAt B i = true) (hk : k < hd W i) (hv : v < 18446744073709551616) : HI (W.set (i + 1 + k) v) B e := by
 have hne : ∀ j, bitAt B j = true → i + 1 + k ≠ j := by
  rintro j hj rfl
  have := h.apart i (i + 1 + k) hi hj (by omega)
  omega
 refine ⟨by simpa using h.pos, by simpa using h.bd, by simpa using h.bl, by simpa using h.top, fun w hw => ?_, h.blt, fun j hj => ?_, fun j l hj hl hjl => ?_⟩
 ·rcases List.mem_or_eq_of_mem_set hw with h1 | rfl
  ·exact h.wlt w h1
  ·exact hv
 ·rw [ze2 (hne j hj)]; exact h.inn j hj
 ·rw [ze2 (hne j hj)]; exact h.apart j l hj hl hjl
theorem HI.alloc (h : HI W B e) {n k : Nat} (hk : k < 256) (hn : n + e < W.length) : HI (setAll (W.set e (n * 256 + k)) (e + 1) (List.replicate n 0)) (setBit B e) (e + n + 1) := by
 have htop := h.top
 have hbd := h.bd
 have hl : e + 1 + (List.replicate n 0).length ≤ (W.set e (n * 256 + k)).length := by simp; omega
 have hhd : ∀ j, j < e → hd (setAll (W.set e (n * 256 + k)) (e + 1) (List.replicate n 0)) j = hd W j := by
  intro j hj
  rw [ze1 hl, if_neg (by omega), ze2 (by omega)]
 have hhe : hd (setAll (W.set e (n * 256 + k)) (e + 1) (List.replicate n 0)) e = n := by
  rw [ze1 hl, if_neg (by omega)]
  unfold hd
  rw [List.getElem?_set_self (by omega)]
  show (n * 256 + k) / 256 = n
  omega
 have hbit := za8 (h.q htop)
 have old : ∀ j, bitAt B j = true → j < e := fun j hj => by have := h.inn j hj; omega
 refine ⟨by rw [zlu]; simpa using h.pos, by rw [zlu]; simpa using h.bd, by rw [zlu]; simpa [setBit] using h.bl, by rw [zlu]; simp; omega, fun w hw => ?_, zlx h.blt, fun j hj => ?_, fun j l hj hl hjl => ?_⟩
 ·rcases zg6 hw with hw | hw
  ·rcases List.mem_or_eq_of_mem_set hw with h1 | rfl
   ·exact h.wlt w h1
   ·omega
  ·rw [(List.mem_replicate.1 hw).2]; decide
 ·rw [hbit] at hj
  rcases Bool.or_eq_true_iff.1 hj with hj | hj
  ·rw [hhd j (old j hj)]; have := h.inn j hj; omega
  ·have : j = e := by simpa using hj
   subst this
   rw [hhe]; omega
 ·rw [hbit] at hj hl
  rcases Bool.or_eq_true_iff.1 hj with hj1 | hj1
  ·rw [hhd j (old j hj1)]
   rcases Bool.or_eq_true_iff.1 hl with hl1 | hl1
   ·exact h.apart j l hj1 hl1 hjl
   ·have : l = e := by simpa using hl1
    rw [this]
    exact h.inn j hj1
  ·have : j = e := by simpa using hj1
   subst this
   rcases Bool.or_eq_true_iff.1 hl with hl1 | hl1
   ·have := old l hl1; omega
   ·have : l = j := by simpa using hl1
    omega
def Clear (W B : List Nat) (a : Nat) : Prop := ∀ j, j < a → bitAt B j = true → j + 1 + hd W j ≤ a
theorem HI.cut (h : HI W B e) {a : Nat} (ha : a ≤ e) (hc : Clear W B a) {B' : List Nat} (hB : Cleared B a e B') : HI W B' a := by
 have hbit : ∀ j, bitAt B' j = true → bitAt B j = true ∧ j < a := by
  intro j hj
  rw [hB.bit, Bool.and_eq_true] at hj
  refine ⟨hj.1, ?_⟩
  have h1 := h.inn j hj.1
  have h2 := hj.2
  simp at h2
  omega
 refine ⟨h.pos, h.bd, by rw [hB.len]; exact h.bl, Nat.le_trans ha h.top, h.wlt, hB.blt, fun j hj => ?_, fun j l hj hl => h.apart j l (hbit j hj).1 (hbit l hl).1⟩
 obtain ⟨h1, h2⟩ := hbit j hj
 exact hc j h2 h1
theorem HI.move (h : HI W B e) {i t : Nat} (hi : bitAt B i = true) (ht : t ≤ i) (hc : Clear W B t) {B' : List Nat} (hB : Cleared B t (i + 1) B') :
  HI (setAll W t ((W.drop i).take (hd W i + 1))) (setBit B' t) e ∧ (∀ j, bitAt (setBit B' t) j = ((bitAt B j && !(decide (t ≤ j) && decide (j < i + 1))) || decide (j = t))) := by
 have htop := h.top
 have hin := h.inn i hi
 have hL : ((W.drop i).take (hd W i + 1)).length = hd W i + 1 := by simp; omega
 have hl : t + ((W.drop i).take (hd W i + 1)).length ≤ W.length := by rw [hL]; omega
 have hhd : ∀ j, (j < t ∨ t + hd W i + 1 ≤ j) → hd (setAll W t ((W.drop i).take (hd W i + 1))) j = hd W j := by
  intro j hj
  rw [ze1 hl, if_neg (by rw [hL]; omega)]
 have hht : hd (setAll W t ((W.drop i).take (hd W i + 1))) t = hd W i := by
  rw [ze1 hl, if_pos (by rw [hL]; omega), Nat.sub_self]
  unfold hd
  rw [List.getElem?_take, if_pos (by omega), List.getElem?_drop, Nat.add_zero]
 have hbit : ∀ j, bitAt (setBit B' t) j = ((bitAt B j && !(decide (t ≤ j) && decide (j < i + 1))) || decide (j = t)) := by
  intro j
  rw [za8 (by rw [hB.len]; exact h.q (by omega)), hB.bit]
 have cases_ : ∀ j, bitAt (setBit B' t) j = true → (bitAt B j = true ∧ j < t) ∨ j = t ∨ (bitAt B j = true ∧ i + 1 + hd W i ≤ j) := by
  intro j hj
  rw [hbit] at hj
  rcases Bool.or_eq_true_iff.1 hj with hj | hj
  ·rw [Bool.and_eq_true] at hj
   have h2 := hj.2
   simp at h2
   rcases Nat.lt_or_ge j t with g | g
   ·exact .inl ⟨hj.1, g⟩
   ·exact .inr (.inr ⟨hj.1, h.apart i j hi hj.1 (by omega)⟩)
  ·exact .inr (.inl (by simpa using hj))
 refine ⟨⟨by rw [zlu]; exact h.pos, by rw [zlu]; exact h.bd, by rw [zlu]; simpa [setBit, hB.len] using h.bl, by rw [zlu]; exact htop, fun w hw => ?_, zlx hB.blt, fun j hj => ?_, fun j l hj hl' hjl => ?_⟩, hbit⟩
 ·rcases zg6 hw with hw | hw
  ·exact h.wlt w hw
  ·exact h.wlt w (List.mem_of_mem_drop (List.mem_of_mem_take hw))
 ·rcases cases_ j hj with ⟨h1, h2⟩ | rfl | ⟨h1, h2⟩
  ·rw [hhd j (.inl h2)]; exact h.inn j h1
  ·rw [hht]; omega
  ·rw [hhd j (.inr (by omega))]; exact h.inn j h1
 ·rcases cases_ j hj with ⟨h1, h2⟩ | rfl | ⟨h1, h2⟩
  ·rw [hhd j (.inl h2)]
   have := hc j h2 h1
   rcases cases_ l hl' with ⟨g1, g2⟩ | rfl | ⟨g1, g2⟩
   ·exact h.apart j l h1 g1 hjl
   ·exact this
   ·omega
  ·rw [hht]
   rcases cases_ l hl' with ⟨g1, g2⟩ | rfl | ⟨g1, g2⟩
   ·omega
   ·omega
   ·omega
  ·rw [hhd j (.inr (by omega))]
   rcases cases_ l hl' with ⟨g1, g2⟩ | rfl | ⟨g1, g2⟩
   ·omega
   ·omega
   ·exact h.apart j l h1 g1 hjl
end Go.EX


set_option linter.unusedVariables false
set_option linter.unusedSimpArgs false
namespace Go.EX
def packL : List UInt8 → Nat
 | [] => 0
 | b :: r => b.toNat + 256 * packL r
theorem zij : ∀ l : List UInt8, packL l < 256 ^ l.length
 | [] => by simp [packL]
 | b :: r => by
  have h := zij r
  have hb : b.toNat < 256 := b.toNat_lt
  simp only [packL, List.length_cons, Nat.pow_succ]
  omega
theorem zii : ∀ (l : List UInt8) (k : Nat), packL l / 256 ^ k % 256 = ((l[k]?).getD 0).toNat
 | [], k => by simp [packL]
 | b :: r, 0 => by
  have hb : b.toNat < 256 := b.toNat_lt
  simp [packL]
 | b :: r, k + 1 => by
  have hb : b.toNat < 256 := b.toNat_lt
  have e : packL (b :: r) / 256 ^ (k + 1) = packL r / 256 ^ k := by
   rw [Nat.pow_succ, Nat.mul_comm, ← Nat.div_div_eq_div_mul, show packL (b :: r) / 256 = packL r by simp only [packL]; omega]
  rw [e, zii r k]
  simp
theorem zik {l : List UInt8} (h : l.length ≤ 8) : packL l < 18446744073709551616 := by
 have h1 := zij l
 have h2 : 256 ^ l.length ≤ 256 ^ 8 := Nat.pow_le_pow_right (by decide) h
 have h3 : (256 : Nat) ^ 8 = 18446744073709551616 := by decide
 omega
theorem zil {l : List UInt8} (h : l.length ≤ 7) : packL l < 72057594037927936 := by
 have h1 := zij l
 have h2 : 256 ^ l.length ≤ 256 ^ 7 := Nat.pow_le_pow_right (by decide) h
 have h3 : (256 : Nat) ^ 7 = 72057594037927936 := by decide
 omega
def tW (s : List UInt8) (j : Nat) : Nat := packL ((s.drop (8 * j)).take 8)
theorem tW_lt (s : List UInt8) (j : Nat) : tW s j < 18446744073709551616 := zik (by rw [List.length_take]; omega)
theorem zm0 (s : List UInt8) (j k : Nat) (hk : k < 8) : tW s j / 256 ^ k % 256 = ((s[8 * j + k]?).getD 0).toNat := by
 unfold tW
 rw [zii, List.getElem?_take_of_lt hk, List.getElem?_drop]
def tN (s : List UInt8) : Nat := (s.length + 7) / 8
structure TextAt (W B : List Nat) (e a : Nat) (s : List UInt8) : Prop where
 bit : bitAt B a = true
 top : a + 2 + tN s ≤ e
 head : W[a]? = some ((1 + tN s) * 256 + 3)
 len : W[a + 1]? = some s.length
 word : ∀ j, j < tN s → W[a + 2 + j]? = some (tW s j)
theorem TextAt.more {W B : List Nat} {e a : Nat} {s : List UInt8} (h : TextAt W B e a s) {W' B' : List Nat} {e' : Nat} (he : e ≤ e') (hw : ∀ i, i < e → W'[i]? = W[i]?) (hb : ∀ i, i < e → bitAt B' i = bitAt B i) : TextAt W' B' e' a s := by
 have ht := h.top
 refine ⟨by rw [hb a (by omega)]; exact h.bit, by omega, by rw [hw a (by omega)]; exact h.head, by rw [hw (a + 1) (by omega)]; exact h.len, fun j hj => by rw [hw _ (by omega)]; exact h.word j hj⟩
theorem TextAt.obj {W B : List Nat} {e a : Nat} {s : List UInt8} (h : TextAt W B e a s) (hi : HI W B e) : ObjAt W B e a (1 + tN s) := by
 have := hi.obj h.bit
 have hh : hd W a = 1 + tN s := by
  unfold hd
  rw [h.head]
  simp only [Option.getD_some]
  omega
 rwa [hh] at this
structure Making (W0 B0 : List Nat) (e : Nat) (s : List UInt8) (j : Nat) (W B : List Nat) : Prop where
 hi : HI W B (e + 2 + tN s)
 bit : bitAt B e = true
 head : W[e]? = some ((1 + tN s) * 256 + 3)
 len : W[e + 1]? = some s.length
 word : ∀ i, i < j → W[e + 2 + i]? = some (tW s i)
 old : ∀ i, i < e → W[i]? = W0[i]?
 bits : ∀ i, i < e → bitAt B i = bitAt B0 i
 sz : W.length = W0.length
theorem Making.hd {W0 B0 W B : List Nat} {e j : Nat} {s : List UInt8} (h : Making W0 B0 e s j W B) : hd W e = 1 + tN s := by
 unfold Go.EX.hd
 rw [h.head]
 simp only [Option.getD_some]
 omega
theorem Making.obj {W0 B0 W B : List Nat} {e j : Nat} {s : List UInt8} (h : Making W0 B0 e s j W B) : ObjAt W B (e + 2 + tN s) e (1 + tN s) := by
 have := h.hi.obj h.bit
 rwa [h.hd] at this
theorem Making.text {W0 B0 W B : List Nat} {e : Nat} {s : List UInt8} (h : Making W0 B0 e s (tN s) W B) : TextAt W B (e + 2 + tN s) e s :=
 ⟨h.bit, Nat.le_refl _, h.head, h.len, h.word⟩
theorem Making.step {W0 B0 W B : List Nat} {e j : Nat} {s : List UInt8} (h : Making W0 B0 e s j W B) (hj : j < tN s) : Making W0 B0 e s (j + 1) (W.set (e + 1 + (1 + j)) (tW s j)) B := by
 have hhi := h.hi.write h.bit (k := 1 + j) (v := tW s j) (by rw [h.hd]; omega) (tW_lt s j)
 have htop := h.hi.top
 refine ⟨hhi, h.bit, ?_, ?_, fun i hi => ?_, fun i hi => ?_, h.bits, by rw [List.length_set]; exact h.sz⟩
 ·rw [List.getElem?_set_ne (by omega)]; exact h.head
 ·rw [List.getElem?_set_ne (by omega)]; exact h.len
 ·by_cases hij : i = j
  ·subst hij
   rw [show e + 1 + (1 + i) = e + 2 + i by omega, List.getElem?_set_self (by omega)]
  ·rw [List.getElem?_set_ne (by omega)]; exact h.word i (by omega)
 ·rw [List.getElem?_set_ne (by omega)]; exact h.old i hi
theorem Making.start {W B : List Nat} {e : Nat} (hi : HI W B e) (s : List UInt8) (hn : 1 + tN s + e < W.length) (hs : s.length < 18446744073709551616) :
  Making W B e s 0 ((setAll (W.set e ((1 + tN s) * 256 + 3)) (e + 1) (List.replicate (1 + tN s) 0)).set (e + 1 + 0) s.length) (setBit B e) := by
 have h1 := hi.alloc (n := 1 + tN s) (k := 3) (by decide) hn
 have hbl := hi.bl
 have hbit : e / 64 < B.length := by omega
 have hb : ∀ j, bitAt (setBit B e) j = (bitAt B j || decide (j = e)) := za8 hbit
 have hbe : bitAt (setBit B e) e = true := by rw [hb]; simp
 have hlen : (setAll (W.set e ((1 + tN s) * 256 + 3)) (e + 1) (List.replicate (1 + tN s) 0)).length = W.length := by rw [zlu, List.length_set]
 have hget : ∀ i, i ≤ e → (setAll (W.set e ((1 + tN s) * 256 + 3)) (e + 1) (List.replicate (1 + tN s) 0))[i]? = (W.set e ((1 + tN s) * 256 + 3))[i]? := by
  intro i hle
  rw [zlt, if_neg (by omega)]
 have hhead : (setAll (W.set e ((1 + tN s) * 256 + 3)) (e + 1) (List.replicate (1 + tN s) 0))[e]? = some ((1 + tN s) * 256 + 3) := by
  rw [hget e (Nat.le_refl _), List.getElem?_set_self (by omega)]
 have hhd : Go.EX.hd (setAll (W.set e ((1 + tN s) * 256 + 3)) (e + 1) (List.replicate (1 + tN s) 0)) e = 1 + tN s := by
  unfold Go.EX.hd
  rw [hhead]
  simp only [Option.getD_some]
  omega
 have h2 := h1.write hbe (k := 0) (v := s.length) (by rw [hhd]; omega) hs
 rw [show e + (1 + tN s) + 1 = e + 2 + tN s by omega] at h2
 refine ⟨h2, hbe, ?_, ?_, fun i hi => absurd hi (by omega), fun i hlt => ?_, fun i hlt => ?_, by rw [List.length_set]; exact hlen⟩
 ·rw [List.getElem?_set_ne (by omega)]; exact hhead
 ·rw [Nat.add_zero, List.getElem?_set_self (by omega)]
 ·rw [List.getElem?_set_ne (by omega), hget i (by omega), List.getElem?_set_ne (by omega)]
 ·rw [hb]
  have : i ≠ e := by omega
  simp [this]
def padL (s : List UInt8) : List UInt8 := s ++ List.replicate 7 0
def readL (s : List UInt8) (j : Nat) : List UInt8 := (padL s).take j ++ List.replicate (s.length + 7 - j) 0
theorem ziq (s : List UInt8) : (padL s).length = s.length + 7 := by simp [padL]
theorem zju (s : List UInt8) (j : Nat) (h : j ≤ s.length + 7) : (readL s j).length = s.length + 7 := by
 simp only [readL, List.length_append, List.length_take, ziq, List.length_replicate]
 omega
theorem zio (s : List UInt8) {j : Nat} (h : j < s.length + 7) : (padL s)[j]? = some ((s[j]?).getD 0) := by
 unfold padL
 by_cases hj : j < s.length
 ·rw [List.getElem?_append_left hj, List.getElem?_eq_getElem hj]; rfl
 ·rw [List.getElem?_append_right (by omega), List.getElem?_replicate, if_pos (by omega), List.getElem?_eq_none (by omega : s.length ≤ j)]; rfl
theorem zjv (s : List UInt8) {j : Nat} (h : j < s.length + 7) : (readL s j).set j ((s[j]?).getD 0) = readL s (j + 1) := by
 have hp := zio s h
 have hl := ziq s
 have hlt : j < (padL s).length := by omega
 have hx : (padL s)[j] = (s[j]?).getD 0 := by
  rw [List.getElem?_eq_getElem hlt] at hp
  exact Option.some.inj hp
 have ht : ((padL s).take j).length = j := by rw [List.length_take]; omega
 unfold readL
 rw [List.set_append_right _ _ (by omega), ht, Nat.sub_self]
 rw [show s.length + 7 - j = (s.length + 7 - (j + 1)) + 1 by omega, List.replicate_succ, List.set_cons_zero, List.take_add_one, List.getElem?_eq_getElem hlt, hx]
 simp
theorem zjw (s : List UInt8) : readL s 0 = List.replicate (s.length + 7) 0 := by simp [readL]
theorem zjt (s : List UInt8) {j : Nat} (h : s.length ≤ j) : (readL s j).take s.length = s := by
 unfold readL
 rw [List.take_append_of_le_length (by rw [List.length_take, ziq]; omega), List.take_take, Nat.min_eq_left h]
 unfold padL
 rw [List.take_append_of_le_length (Nat.le_refl _), List.take_length]
end Go.EX


set_option linter.unusedVariables false
set_option linter.unusedSimpArgs false
namespace Go.EX
structure TextCode (code : Nat → Option XFun) : Prop where
 small : Smalls code
 c169 : code 169 = some x169
 c171 : code 171 = some x171
 c174 : code 174 = some x174
 c175 : code 175 = some x175
 c176 : code 176 = some x176
 c177 : code 177 = some x177
 c178 : code 178 = some x178
 c276 : code 276 = some x276
 c277 : code 277 = some x277
 c281 : code 281 = some x281
 c282 : code 282 = some x282
 c286 : code 286 = some x286
 c436 : code 436 = some x436
 c437 : code 437 = some x437
 c567 : code 567 = some x567
 c592 : code 592 = some x592
 c594 : code 594 = some x594
 c599 : code 599 = some x599
 c603 : code 603 = some x603
 c605 : code 605 = some x605
 c610 : code 610 = some x610
 c611 : code 611 = some x611
 c613 : code 613 = some x613
 c614 : code 614 = some x614
 c615 : code 615 = some x615
 c616 : code 616 = some x616
 c618 : code 618 = some x618
 c752 : code 752 = some x752
 c762 : code 762 = some x762
abbrev uint8 (k : Int) : AV := .imm (.val (.int .u8 k))
abbrev objV (a k : Int) : AV := .agg [.optr 0 0, int64 a, uint8 k]
abbrev valV (k n : Int) : AV := .agg [uint8 k, int64 n]
section
variable {code : Nat → Option XFun} {ext : Calls'}
theorem zn7 (c : TextCode code) {W B : List Nat} {e a n i v : Nat} (o : ObjAt W B e a n) (hi : i < n) (hv : W[a + 1 + i]? = some v) (k : Int) :
  callW code ext 286 [objV a k, int64 i] (hMem W B e) = some (uint64 v, hMem W B e) := by
 have h1 := zjx (ext := ext) c.small c.c174 o hi hv
 rw [zbk code ext c.c286]
 simp -implicitDefEqProofs [x286, h1]
theorem zh8 (c : TextCode code) {W B : List Nat} {e a n : Nat} (o : ObjAt W B e a n) (k : Int) :
  callW code ext 281 [objV a k] (hMem W B e) = some (int64 n, hMem W B e) := by
 have h1 := zmc (ext := ext) c.small c.c175 o
 rw [zbk code ext c.c281]
 simp -implicitDefEqProofs [x281, h1]
theorem zf0 {w : Nat} (hw : w < 18446744073709551616) : ∃ g : Nat, intBin .and .u64 w 255 = some (.int .u64 g) ∧ IntKind.wrap .u8 (g : Int) = ((w % 256 : Nat) : Int) := by
 refine ⟨w &&& 255, zaq hw (by decide), ?_⟩
 have : w &&& 255 = w % 256 := Nat.and_two_pow_sub_one_eq_mod w 8
 rw [this, wrapU8 (by omega) (by omega)]
theorem zf2 (c : TextCode code) {W B : List Nat} {e a n w : Nat} (o : ObjAt W B e a n) (hw : W[a]? = some w) :
  callW code ext 171 [.optr 0 0, int64 a] (hMem W B e) = some (.tup [uint8 (w % 256 : Nat), int64 0], hMem W B e) := by
 have h1 := zgp (ext := ext) c.small o
 obtain ⟨w', w1, _, w3⟩ := o.head
 have : w' = w := Option.some.inj (w1.symm.trans hw)
 subst this
 have h2 := znw hw
 obtain ⟨g, g1, g2⟩ := zf0 w3
 have e1 : (a : Int) < W.length := by have := o.lt; have := o.top; omega
 have e2 : a < W.length := by omega
 rw [zbk code ext c.c171]
 simp -implicitDefEqProofs [-intBin, b_neq, x171, h1, h2, e1, e2, g1, g2]
theorem zf1 (c : TextCode code) {W B : List Nat} {e : Nat} {i : Int} (hW : 1 ≤ W.length) (he : e ≤ 1048576) (o : NoObj B e i) :
  callW code ext 171 [.optr 0 0, int64 i] (hMem W B e) = some (.tup [uint8 0, int64 1], hMem W B e) := by
 have h1 := zgo (ext := ext) c.small hW he o
 rw [zbk code ext c.c171]
 simp -implicitDefEqProofs [x171, h1]
end
end Go.EX


set_option linter.unusedVariables false
set_option linter.unusedSimpArgs false
namespace Go.EX
def bsO (l : List UInt8) : ByteArray := ⟨l.toArray⟩
@[simp] theorem bsO_size (l : List UInt8) : (bsO l).size = l.length := rfl
theorem bsO_of (b : ByteArray) : bsO b.data.toList = b := by cases b; rfl
theorem zbe (l : List UInt8) (i : Nat) : (bsO l)[i]? = l[i]? := by
 by_cases h : i < l.length
 ·rw [List.getElem?_eq_getElem h, getElem?_pos (bsO l) i (by rw [bsO_size]; exact h)]
  rfl
 ·rw [List.getElem?_eq_none (by omega), getElem?_neg (bsO l) i (by rw [bsO_size]; exact h)]
theorem zbc (a b : List UInt8) : bsO a ++ bsO b = bsO (a ++ b) := by
 apply ByteArray.ext
 rw [ByteArray.data_append]
 simp [bsO]
theorem zbd (l : List UInt8) (i j : Nat) : (bsO l).extract i j = bsO ((l.drop i).take (j - i)) := by
 apply ByteArray.ext
 rw [ByteArray.data_extract]
 apply Array.ext'
 simp [bsO, Array.toList_extract]
theorem zbf {a b : List UInt8} : bsO a = bsO b ↔ a = b := by
 constructor
 ·intro h
  have := congrArg (fun x => x.data.toList) h
  simpa [bsO] using this
 ·intro h; rw [h]
abbrev strO (l : List UInt8) : AV := .imm (.val (.string (bsO l)))
def rowO (l : List UInt8) : List IV := l.map fun c => .val (.int .u8 c.toNat)
theorem zkt (l : List UInt8) : (rowO l).length = l.length := by simp [rowO]
theorem zkv (l : List UInt8) (i : Nat) (c : UInt8) : (rowO l).set i (.val (.int .u8 c.toNat)) = rowO (l.set i c) := by simp [rowO, List.map_set]
theorem zku (n : Nat) : List.replicate n (IV.val (.int .u8 0)) = rowO (List.replicate n 0) := by simp [rowO]
theorem znl (l : List UInt8) : u8s (rowO l) = some (l.map fun c => (c.toNat : Int)) := by
 induction l with
 | nil => rfl
 | cons c l ih =>
  have : rowO (c :: l) = .val (.int .u8 c.toNat) :: rowO l := rfl
  rw [this]
  simp [u8s, ih]
theorem pushO (l : List UInt8) : pushAll (l.map fun c => (c.toNat : Int)) = bsO l := by
 have : ∀ (l : List UInt8) (r : ByteArray), (l.map fun c => (c.toNat : Int)).foldl (fun r n => r.push (UInt8.ofNat n.toNat)) r = r ++ bsO l := by
  intro l
  induction l with
  | nil => intro r; apply ByteArray.ext; simp [ByteArray.data_append, bsO]
  | cons c l ih =>
   intro r
   simp only [List.map_cons, List.foldl_cons, Int.toNat_natCast, UInt8.ofNat_toNat]
   rw [ih]
   apply ByteArray.ext
   simp [ByteArray.data_append, bsO, ByteArray.push]
 unfold pushAll
 rw [this l]
 apply ByteArray.ext
 simp [ByteArray.data_append]
theorem zms (l : List UInt8) (m : Mem) (id n k : Nat) (cap : Option Nat) (h : m[id]? = some (.flat (rowO l) false)) (hn : n ≤ l.length) : strOfV m (.osl id 0 1 n cap) = some (bsO (l.take n)) := by
 have hc : cut (rowO l) 0 n = some (rowO (l.take n)) := by
  refine cut_mk ?_ ?_
  ·simp [rowO, List.map_take]
  ·rw [zkt, List.length_take]; omega
 simp only [strOfV, elems, h, Nat.mul_one, hc, Option.map_some, znl, pushO]
abbrev kMem (W B : List Nat) (e : Nat) (o : AObj) : Mem := [.rich [.osl 2 0 1 W.length (some W.length), .osl 3 0 1 B.length (some B.length), int64 e], o, .flat (urow W) false, .flat (urow B) false]
section
variable {code : Nat → Option XFun} {ext : Calls'}
theorem zhq (c : TextCode code) (W B : List Nat) (e : Nat) (hW : 1 ≤ W.length) : callW code ext 611 [.optr 0 0] (hMem W B e) = some (avb false, hMem W B e) := by
 have h1 := zn8 (ext := ext) c.c177 W B e
 have e1 : ¬ (W.length : Int) = 0 := by omega
 have e2 : ¬ W = [] := fun h => by rw [h] at hW; simp at hW
 rw [zbk code ext c.c611]
 simp -implicitDefEqProofs [x611, h1, e1, e2]
theorem zga (c : TextCode code) {W B : List Nat} {e a n w : Nat} (o : ObjAt W B e a n) (hw : W[a]? = some w) (hk : w % 256 < 8) :
  callW code ext 613 [.optr 0 0, valV (w % 256 : Nat) a] (hMem W B e) = some (.tup [objV a (w % 256 : Nat), avb true], hMem W B e) := by
 have h1 := zf2 (ext := ext) c o hw
 generalize hq : w % 256 = q at *
 have e1 : (q : Int) < 8 := by omega
 rw [zbk code ext c.c613]
 simp -implicitDefEqProofs [x613, h1, e1]
theorem TextAt.kind {W B : List Nat} {e a : Nat} {s : List UInt8} (h : TextAt W B e a s) : ((1 + tN s) * 256 + 3) % 256 = 3 := by omega
theorem zgb (c : TextCode code) {W B : List Nat} {e a : Nat} {s : List UInt8} (hi : HI W B e) (h : TextAt W B e a s) :
  callW code ext 613 [.optr 0 0, valV 3 a] (hMem W B e) = some (.tup [objV a 3, avb true], hMem W B e) := by
 have := zga (ext := ext) c (h.obj hi) h.head (by rw [h.kind]; decide)
 rw [h.kind] at this
 exact this
theorem zg4 (c : TextCode code) {W B : List Nat} {e a : Nat} {s : List UInt8} (hi : HI W B e) (h : TextAt W B e a s) (hs : s.length ≤ 4096) :
  callW code ext 277 [objV a 3] (hMem W B e) = some (avb true, hMem W B e) := by
 have o := h.obj hi
 have h1 := zh8 (ext := ext) c o 3
 have h2 : callW code ext 286 [objV a 3, int64 0] (hMem W B e) = some (uint64 s.length, hMem W B e) := zn7 (ext := ext) c o (i := 0) (by omega) (by simpa using h.len) 3
 have e1 : (s.length : Int) ≤ 4096 := by omega
 have e2 : IntKind.wrap .i64 (s.length : Int) = s.length := wrapI64 (by omega) (by omega)
 obtain ⟨L7, hL7⟩ : ∃ L7, L7 = s.length + 7 := ⟨_, rfl⟩
 have e3 : IntKind.wrap .i64 ((s.length : Int) + 7) = (L7 : Int) := by rw [wrapI64 (by omega) (by omega)]; omega
 have e4 : ((L7 : Int).tdiv 8) = tN s := by
  rw [Int.tdiv_eq_ediv_of_nonneg (by omega)]; unfold tN; omega
 have e4' : ((L7 : Int) / 8) = tN s := by unfold tN; omega
 have hN : tN s ≤ 520 := by unfold tN; omega
 have e5 : IntKind.wrap .i64 (tN s : Int) = tN s := wrapI64 (by omega) (by omega)
 have e6 : IntKind.wrap .i64 (1 + (tN s : Int)) = ((1 + tN s : Nat) : Int) := by rw [wrapI64 (by omega) (by omega)]; omega
 have e7 : (0 : Int) < ((1 + tN s : Nat) : Int) := by omega
 have e7' : 0 < 1 + tN s := by omega
 have e1' : s.length ≤ 4096 := hs
 rw [zbk code ext c.c277]
 generalize tN s = N at *
 generalize s.length = L at *
 generalize 1 + N = M at *
 simp -implicitDefEqProofs [-intBin, b_eql, b_gtr, b_leq, b_add, show ∀ x : Int, intBin .quo .i64 x 8 = some (.int .i64 (IntKind.wrap .i64 (x.tdiv 8))) from fun x => rfl, x277, h1, h2, e1, e2, e3, e4, e4', e5, e6, e7, e7', e1']
theorem zbz (c : TextCode code) (k : Int) (ks : List IV) (n : Nat) (hn : n = ks.length + 1) : callW code ext 752 [.osl 0 0 1 n (some n), uint8 k] [.flat (.val (.int .u8 k) :: ks) false] = some (avb true, [.flat (.val (.int .u8 k) :: ks) false]) := by
 have h1 : callW code ext 762 [.osl 0 0 1 n (some n), uint8 k] [.flat (.val (.int .u8 k) :: ks) false] = some (int64 0, [.flat (.val (.int .u8 k) :: ks) false]) := by
  have hl : den code ext (.loop [0, 1, 7, 8] x762L1) ⟨1, [(0, .osl 0 0 1 n (some n)), (1, uint8 k), (7, int64 n), (8, int64 0)], [.flat (.val (.int .u8 k) :: ks) false]⟩ =
    some (.ret, ⟨1, [(4, int64 0)], [.flat (.val (.int .u8 k) :: ks) false]⟩) := by
   have e1 : (0 : Int) < n := by omega
   have e2 : 0 < n := by omega
   rw [zcd]
   simp -implicitDefEqProofs [x762L1, e1, e2]
  rw [zbk code ext c.c762]
  simp -implicitDefEqProofs [x762, hl]
 rw [zbk code ext c.c752]
 simp -implicitDefEqProofs [x752, h1]
theorem zd6 (c : TextCode code) {W B : List Nat} {e a : Nat} {s : List UInt8} (hi : HI W B e) (h : TextAt W B e a s) (hs : s.length ≤ 4096) (ks : List IV) (n : Nat) (hn : n = ks.length + 1) :
  callW code ext 610 [.optr 0 0, valV 3 a, .osl 1 0 1 n (some n)] (kMem W B e (.flat (.val (.int .u8 3) :: ks) false)) = some (.tup [objV a 3, int64 0], kMem W B e (.flat (.val (.int .u8 3) :: ks) false)) := by
 have hW : 1 ≤ W.length := hi.pos
 have h1 := zhq (ext := ext) c W B e hW
 have h2 := zbz (ext := ext) c 3 ks n hn
 have h3 := zgb (ext := ext) c hi h
 have h4 := zg4 (ext := ext) c hi h hs
 rw [zbk code ext c.c610]
 simp -implicitDefEqProofs [x610, h1, h2, h3, h4]
end
end Go.EX


set_option linter.unusedVariables false
set_option linter.unusedSimpArgs false
namespace Go.EX
abbrev tMem (W B : List Nat) (e : Nat) (a : Int) (row : List IV) : Mem := [.rich [.osl 1 0 1 W.length (some W.length), .osl 2 0 1 B.length (some B.length), int64 e], .flat (urow W) false, .flat (urow B) false, .rich [.optr 0 0, int64 a, uint8 3], .flat row false]
abbrev txEnv (n n7 j i w k : Nat) : Env := [(1, .optr 3 0), (3, int64 n), (4, .osl 4 0 1 j (some n7)), (5, int64 i), (6, uint64 w), (7, int64 k)]
abbrev txEnv2 (n n7 j i : Nat) : Env := [(1, .optr 3 0), (3, int64 n), (4, .osl 4 0 1 j (some n7)), (5, int64 i)]
theorem tW_shr (s : List UInt8) (q k : Nat) (hk : k < 8) : ∃ v : Nat, shiftBin .shr .u64 (tW s q) ((8 * k : Nat) : Int) = some (.int .u64 v) ∧ IntKind.wrap .u8 (v : Int) = (((s[8 * q + k]?).getD 0).toNat : Int) := by
 refine ⟨tW s q / 2 ^ (8 * k), zma _ _ (by omega), ?_⟩
 have h := zm0 s q k hk
 have h2 : 2 ^ (8 * k) = 256 ^ k := by rw [Nat.pow_mul]
 rw [h2, ← h]
 generalize tW s q / 256 ^ k = v
 simp only [IntKind.wrap, IntKind.signed, IntKind.bits]
 simp
section
variable {code : Nat → Option XFun} {ext : Calls'}
theorem tx_in (W B : List Nat) (e : Nat) (a : Int) (s : List UInt8) (hs : s.length ≤ 4096) (n7 : Nat) (hn : n7 = s.length + 7) (i q : Nat) (hq : 8 * q < s.length) : ∀ (m : Nat) (st : St), (∃ k, m + k = 8 ∧ st.tidy [1, 3, 4, 5, 6, 7] = ⟨3, txEnv s.length n7 (8 * q + k) i (tW s q) k, tMem W B e a (rowO (readL s (8 * q + k)))⟩) →
  ∃ x s', den code ext (.loop [1, 3, 4, 5, 6, 7] x282L1) st = some (x, s') ∧ x ≠ .normal ∧ (x = .exit 2 ∧ s' = ⟨3, txEnv s.length n7 (8 * q + 8) i (tW s q) 8 ++ [(24, avb false)], tMem W B e a (rowO (readL s (8 * q + 8)))⟩) := by
 refine zgr _ _ ?_
 rintro m st ⟨k, hk, hst⟩
 rw [hst]
 by_cases h8 : k = 8
 ·subst h8
  refine ⟨.exit 2, ⟨3, txEnv s.length n7 (8 * q + 8) i (tW s q) 8 ++ [(24, avb false)], tMem W B e a (rowO (readL s (8 * q + 8)))⟩, ?_, .inr ⟨by simp, rfl, rfl⟩⟩
  simp -implicitDefEqProofs [x282L1]
 ·have hk8 : k < 8 := by omega
  obtain ⟨v, h1, h2⟩ := tW_shr s q k hk8
  obtain ⟨j, hj⟩ : ∃ j, j = 8 * q + k := ⟨_, rfl⟩
  have hjn : j < s.length + 7 := by omega
  have hstep := zjv s hjn
  have hlen := zju s j (by omega)
  have hset := zkv (readL s j) j ((s[j]?).getD 0)
  rw [hstep] at hset
  have hrl := zkt (readL s j)
  rw [hlen, ← hn] at hrl
  rw [← hj] at h2
  generalize hc : (s[j]?).getD 0 = ch at *
  have hj1 : 8 * q + (k + 1) = j + 1 := by omega
  rw [← hj]
  refine ⟨.normal, ⟨3, txEnv s.length n7 (j + 1) i (tW s q) (k + 1), tMem W B e a (rowO (readL s (j + 1))) ++ [.flat [.val (.int .u8 ch.toNat)] false]⟩, ?_, .inl ⟨rfl, 8 - (k + 1), by omega, k + 1, by omega, ?_⟩⟩
  ·have e1 : (k : Int) < 8 := by omega
   have e2 : IntKind.wrap .i64 (8 * (k : Int)) = ((8 * k : Nat) : Int) := by rw [wrapI64 (by omega) (by omega)]; omega
   have e3 : IntKind.wrap .i64 ((k : Int) + 1) = ((k + 1 : Nat) : Int) := by rw [wrapI64 (by omega) (by omega)]; omega
   have e4 : j + 1 ≤ n7 := by omega
   generalize 8 * k = k8 at *
   generalize hk1 : k + 1 = k1 at *
   generalize hj2 : j + 1 = j1 at *
   generalize tW s q = w at *
   simp -implicitDefEqProofs [-intBin, -shiftBin, b_lss, b_add, show ∀ x : Int, intBin .mul .i64 8 x = some (.int .i64 (IntKind.wrap .i64 (8 * x))) from fun x => rfl, x282L1, e1, e2, e3, e4, h1, h2, exAppendX, exAppend, elems, hrl, setAll, hset, hj2]
  ·rw [hj1]
   simp -implicitDefEqProofs []
theorem tx_out (c : TextCode code) {W B : List Nat} {e a : Nat} {s : List UInt8} (hi : HI W B e) (h : TextAt W B e a s) (hs : s.length ≤ 4096) (n7 : Nat) (hn : n7 = s.length + 7) : ∀ (m : Nat) (st : St), (∃ q i, i = q + 1 ∧ s.length + 8 ≤ m + 8 * q + 8 ∧ 8 * q ≤ s.length + 7 ∧ st.tidy [1, 3, 4, 5] = ⟨3, txEnv2 s.length n7 (8 * q) i, tMem W B e a (rowO (readL s (8 * q)))⟩) →
  ∃ x s', den code ext (.loop [1, 3, 4, 5] x282L2) st = some (x, s') ∧ x ≠ .normal ∧ (x = .exit 0 ∧ ∃ j i, s.length ≤ j ∧ j ≤ n7 ∧ s' = ⟨3, txEnv2 s.length n7 j i ++ [(17, avb false)], tMem W B e a (rowO (readL s j))⟩) := by
 refine zgr _ _ ?_
 rintro m st ⟨q, i, hiq, hm, hq7, hst⟩
 rw [hst]
 by_cases hq : 8 * q < s.length
 ·have o := h.obj hi
  have hw : callW code ext 286 [objV a 3, int64 i] (hMem W B e) = some (uint64 (tW s q), hMem W B e) :=
   zn7 (ext := ext) c o (i := i) (by unfold tN; omega) (by rw [← h.word q (by unfold tN; omega)]; congr 1; omega) 3
  obtain ⟨x, s', h1, _, rfl, rfl⟩ := tx_in (code := code) (ext := ext) W B e a s hs n7 hn i q hq 8 ⟨3, txEnv s.length n7 (8 * q) i (tW s q) 0, tMem W B e a (rowO (readL s (8 * q)))⟩ ⟨0, rfl, by rw [Nat.add_zero]; simp -implicitDefEqProofs []⟩
  have e3 : IntKind.wrap .i64 ((i : Int) + 1) = ((i + 1 : Nat) : Int) := by rw [wrapI64 (by omega) (by omega)]; omega
  have hi1 : i + 1 = (q + 1) + 1 := by omega
  refine ⟨.normal, ⟨3, txEnv2 s.length n7 (8 * (q + 1)) (i + 1), tMem W B e a (rowO (readL s (8 * (q + 1))))⟩, ?_, .inl ⟨rfl, m - 8, by omega, q + 1, i + 1, hi1, by omega, by omega, by simp -implicitDefEqProofs []⟩⟩
  have e1 : ((8 * q : Nat) : Int) < s.length := by omega
  have e8 : 8 * (q + 1) = 8 * q + 8 := by omega
  rw [e8]
  have e1' := hq
  generalize 8 * q + 8 = q8 at *
  generalize 8 * q = q0 at *
  generalize i + 1 = i1 at *
  generalize tW s q = w at *
  simp only [txEnv, Int.natCast_zero, List.cons_append, List.nil_append] at h1
  simp -implicitDefEqProofs [-intBin, b_lss, b_add, x282L2, hw, e1, e1', e3, h1]
 ·have e1 : ¬ ((8 * q : Nat) : Int) < s.length := by omega
  refine ⟨.exit 0, ⟨3, txEnv2 s.length n7 (8 * q) i ++ [(17, avb false)], tMem W B e a (rowO (readL s (8 * q)))⟩, ?_, .inr ⟨by simp, rfl, 8 * q, i, by omega, by omega, rfl⟩⟩
  generalize 8 * q = q0 at *
  simp -implicitDefEqProofs [x282L2, e1, hq]
theorem zm5 (c : TextCode code) {W B : List Nat} {e a : Nat} {s : List UInt8} (hi : HI W B e) (h : TextAt W B e a s) (hs : s.length ≤ 4096) :
  callW code ext 282 [objV a 3] (hMem W B e) = some (strO s, hMem W B e) := by
 have o := h.obj hi
 have hw : callW code ext 286 [objV a 3, int64 0] (hMem W B e) = some (uint64 s.length, hMem W B e) := zn7 (ext := ext) c o (i := 0) (by omega) (by simpa using h.len) 3
 obtain ⟨n7, hn⟩ : ∃ n7, n7 = s.length + 7 := ⟨_, rfl⟩
 have e2 : IntKind.wrap .i64 (s.length : Int) = s.length := wrapI64 (by omega) (by omega)
 have e3 : IntKind.wrap .i64 ((s.length : Int) + 7) = (n7 : Int) := by rw [wrapI64 (by omega) (by omega)]; omega
 have e4 : n7 ≤ 281474976710656 := by omega
 have e5 : (n7 : Int) ≤ 281474976710656 := by omega
 have e6 : (n7 : Int) ≤ 9223372036854775807 := by omega
 have e7 : n7 ≤ 9223372036854775807 := by omega
 have hz : copies n7 [IV.val (.int .u8 0)] = rowO (readL s 0) := by
  rw [zjw, ← zku, hn]
  generalize s.length + 7 = n
  induction n with
  | zero => rfl
  | succ n ih => simp only [copies, ih, List.replicate_succ]; rfl
 obtain ⟨x, s', h1, _, rfl, j, i, hj1, hj2, rfl⟩ := tx_out (code := code) (ext := ext) c hi h hs n7 hn (s.length + 8) ⟨3, txEnv2 s.length n7 0 1, tMem W B e a (rowO (readL s 0))⟩ ⟨0, 1, rfl, by omega, by omega, by simp -implicitDefEqProofs []⟩
 have hso : ∀ m : Mem, m[4]? = some (.flat (rowO (readL s j)) false) → ∀ cp, strOfV m (.osl 4 0 1 s.length cp) = some (bsO s) := fun m hm cp => by
  have := zms (readL s j) m 4 s.length 1 cp hm (by rw [zju s j (by omega)]; omega)
  rw [zjt s hj1] at this
  exact this
 have hsn : (s.length : Int) ≤ n7 := by omega
 have hsn' : s.length ≤ n7 := by omega
 simp only [txEnv2, Int.natCast_zero, Int.natCast_one, List.cons_append, List.nil_append] at h1
 rw [zbk code ext c.c282]
 simp -implicitDefEqProofs [x282, hw, e2, e3, e4, e5, e6, e7, hz, h1, exSlice, hsn, hsn', hso]
end
end Go.EX


set_option linter.unusedVariables false
set_option linter.unusedSimpArgs false
namespace Go.EX
section
variable {code : Nat → Option XFun} {ext : Calls'}
theorem zag (c : TextCode code) {W B : List Nat} {e a : Nat} {s : List UInt8} (hi : HI W B e) (h : TextAt W B e a s) (hs : s.length ≤ 4096) :
  callW code ext 605 [.optr 0 0, valV 3 a] (hMem W B e) = some (.tup [strO s, int64 0], hMem W B e) := by
 have h1 := zd6 (ext := ext) c hi h hs [] 1 rfl
 have h2 := zm5 (ext := ext) c hi h hs
 rw [zbk code ext c.c605]
 simp -implicitDefEqProofs [x605, h1, h2]
theorem zac (c : TextCode code) {W B : List Nat} {e a : Nat} {s : List UInt8} (hi : HI W B e) (h : TextAt W B e a s) (hs : s.length ≤ 4096) :
  callW code ext 594 [.optr 0 0, valV 3 a] (hMem W B e) = some (.tup [int64 s.length, int64 0], hMem W B e) := by
 have h1 := zd6 (ext := ext) c hi h hs [.val (.int .u8 4), .val (.int .u8 5)] 3 rfl
 have hw : callW code ext 286 [objV a 3, int64 0] (hMem W B e) = some (uint64 s.length, hMem W B e) := zn7 (ext := ext) c (h.obj hi) (i := 0) (by omega) (by simpa using h.len) 3
 have e2 : IntKind.wrap .i64 (s.length : Int) = s.length := wrapI64 (by omega) (by omega)
 rw [zbk code ext c.c594]
 simp -implicitDefEqProofs [x594, h1, hw, e2]
abbrev keyT (s : List UInt8) : AV := .agg [uint8 3, int64 0, strO (61 :: s)]
theorem zhf (c : TextCode code) {W B : List Nat} {e a : Nat} {s : List UInt8} (hi : HI W B e) (h : TextAt W B e a s) (hs : s.length ≤ 4096) :
  callW code ext 616 [.optr 0 0, valV 3 a] (hMem W B e) = some (keyT s, hMem W B e) := by
 have h1 := zag (ext := ext) c hi h hs
 have h2 : (⟨#[61]⟩ : ByteArray) ++ bsO s = bsO (61 :: s) := zbc [61] s
 have e0 : (⟨#[61]⟩ : ByteArray).size = 1 := rfl
 have e2 : 1 + s.length ≤ 9223372036854775807 := by omega
 rw [zbk code ext c.c616]
 simp -implicitDefEqProofs [x616, h1, h2, e0, e2]
theorem zaf (c : TextCode code) {W B : List Nat} {e a b : Nat} {s t : List UInt8} (hi : HI W B e) (h : TextAt W B e a s) (g : TextAt W B e b t) (hs : s.length ≤ 4096) (ht : t.length ≤ 4096) (hab : a = b → s = t) :
  callW code ext 603 [.optr 0 0, valV 3 a, valV 3 b] (hMem W B e) = some (avb (decide (s = t)), hMem W B e) := by
 have h0 := zhq (ext := ext) c W B e hi.pos
 have h1 := zhf (ext := ext) c hi h hs
 have h2 := zhf (ext := ext) c hi g ht
 have h3 : (bsO (61 :: s) = bsO (61 :: t)) = (s = t) := by rw [zbf]; simp
 rw [zbk code ext c.c603]
 by_cases e1 : a = b
 ·have e2 := hab e1
  subst e2
  subst e1
  simp -implicitDefEqProofs [x603, h0, h1]
 ·have e3 : ¬ (a : Int) = b := by omega
  have h4 : (bsO (61 :: s) == bsO (61 :: t)) = decide (s = t) := by
   show ((bsO (61 :: s)).data == (bsO (61 :: t)).data) = decide (s = t)
   rw [Bool.eq_iff_iff, beq_iff_eq]; simp [bsO]
  simp -implicitDefEqProofs [x603, h0, h1, h2, h3, e1, e3, h4]
end
end Go.EX


set_option linter.unusedVariables false
set_option linter.unusedSimpArgs false
namespace Go.EX
section
variable {code : Nat → Option XFun} {ext : Calls'}
theorem zan (c : TextCode code) {W B : List Nat} {e : Nat} (hi : HI W B e) {k n : Nat} (hk : 3 ≤ k) (hk2 : k ≤ 8) (hn : n + e < W.length) :
  callW code ext 169 [.optr 0 0, .imm (.val (.int .u8 k)), int64 n] (hMem W B e) = some (.tup [int64 e, int64 0], hMem (setAll (W.set e (n * 256 + k)) (e + 1) (List.replicate n 0)) (setBit B e) (e + n + 1)) := by
 obtain ⟨b, g1, g2, _⟩ := hi.word (i := e) hi.top
 have := zap (ext := ext) c.small c.c169 (W := W) (B := B) (e := e) hk hk2 hn hi.bd g1 g2
 rw [this, setBit, g1]; rfl
theorem zgu (c : TextCode code) {W B : List Nat} {e : Nat} (hi : HI W B e) {k n : Nat} (hk : 3 ≤ k) (hk2 : k ≤ 8) (hn : n + e < W.length) :
  callW code ext 615 [.optr 0 0, uint8 k, int64 n] (hMem W B e) = some (.tup [objV e k, int64 0], hMem (setAll (W.set e (n * 256 + k)) (e + 1) (List.replicate n 0)) (setBit B e) (e + n + 1)) := by
 have h1 := zan (ext := ext) c hi hk hk2 hn
 have hl : (setAll (W.set e (n * 256 + k)) (e + 1) (List.replicate n 0)).length = W.length := by rw [zlu, List.length_set]
 have hb : (setBit B e).length = B.length := by simp [setBit]
 generalize setAll (W.set e (n * 256 + k)) (e + 1) (List.replicate n 0) = W' at *
 generalize setBit B e = B' at *
 generalize e + n + 1 = e' at *
 simp only [hMem, hl, hb] at h1
 rw [zbk code ext c.c615]
 simp -implicitDefEqProofs [x615, h1, hl, hb]
theorem zm8 (c : TextCode code) (W B : List Nat) (e : Nat) (a k : Int) : callW code ext 618 [objV a k, int64 0] (hMem W B e) = some (.tup [valV k a, int64 0], hMem W B e) := by
 rw [zbk code ext c.c618]
 simp -implicitDefEqProofs [x618]
abbrev nMem (W B : List Nat) (e : Nat) (a : Nat) : Mem := [.rich [.osl 1 0 1 W.length (some W.length), .osl 2 0 1 B.length (some B.length), int64 e], .flat (urow W) false, .flat (urow B) false, .rich [uint8 0, int64 0], .rich [.optr 0 0, int64 a, uint8 3]]
abbrev nEnv (s : List UInt8) (i : Nat) : Env := [(1, strO s), (4, .optr 3 0), (6, .optr 4 0), (7, int64 0), (8, int64 i)]
abbrev nEnv2 (s : List UInt8) (i w : Nat) (k : Int) : Env := nEnv s i ++ [(9, uint64 w), (10, int64 k)]
theorem zin (l : List UInt8) (t : Nat) (c : UInt8) (h : l[t]? = some c) : packL (l.drop t) = c.toNat + 256 * packL (l.drop (t + 1)) := by
 obtain ⟨ht, hc⟩ := List.getElem?_eq_some_iff.1 h
 rw [List.drop_eq_getElem_cons ht, hc]; rfl
theorem zim (w : Nat) (c : UInt8) (hw : w < 72057594037927936) : ∃ v : Nat, shiftBin .shl .u64 (w : Int) 8 = some (.int .u64 v) ∧ IntKind.wrap .u64 (c.toNat : Int) = c.toNat ∧ intBin .or .u64 (v : Int) (c.toNat : Int) = some (.int .u64 ((c.toNat + 256 * w : Nat) : Int)) := by
 have hc : c.toNat < 256 := c.toNat_lt
 refine ⟨w * 256, ?_, wrapU64 (by omega) (by omega), ?_⟩
 ·unfold shiftBin
  rw [if_neg (by decide)]
  show some (Value.int IntKind.u64 (IntKind.wrap .u64 ((w : Int) * 2 ^ 8))) = _
  rw [show ((w : Int) * 2 ^ 8) = ((w * 256 : Nat) : Int) by omega, wrapU64 (by omega) (by omega)]
 ·rw [or_bin (by omega) (by omega)]
  congr 3
  have : w * 256 ||| c.toNat = w * 256 + c.toNat := by
   rw [show w * 256 = w <<< 8 from by rw [Nat.shiftLeft_eq]]
   rw [Nat.shiftLeft_add_eq_or_of_lt hc]
  rw [this]; omega
theorem nw_in (W B : List Nat) (e a : Nat) (s : List UInt8) (hs : s.length ≤ 4096) (i : Nat) : ∀ (m : Nat) (st : St), (∃ t, t = m ∧ t ≤ 8 ∧ i + t ≤ s.length ∧ st.tidy [1, 4, 6, 7, 8, 9, 10] = ⟨3, nEnv2 s i (packL (((s.drop i).take 8).drop t)) ((i + t : Nat) - 1 : Int), nMem W B e a⟩) →
  ∃ x s', den code ext (.loop [1, 4, 6, 7, 8, 9, 10] x599L1) st = some (x, s') ∧ x ≠ .normal ∧ (x = .exit 3 ∧ s' = ⟨3, nEnv2 s i (packL ((s.drop i).take 8)) ((i : Int) - 1) ++ [(56, avb false)], nMem W B e a⟩) := by
 refine zgr _ _ ?_
 rintro m st ⟨t, rfl, ht, hle, hst⟩
 rw [hst]
 cases t with
 | zero =>
  refine ⟨.exit 3, ⟨3, nEnv2 s i (packL ((s.drop i).take 8)) ((i : Int) - 1) ++ [(56, avb false)], nMem W B e a⟩, ?_, .inr ⟨by simp, rfl, rfl⟩⟩
  have e1 : ¬ (i : Int) ≤ (i : Int) - 1 := by omega
  rw [Nat.add_zero, List.drop_zero]
  generalize packL ((s.drop i).take 8) = w
  generalize (i : Int) - 1 = k at *
  simp -implicitDefEqProofs [x599L1, e1]
 | succ t =>
  have hit : i + t < s.length := by omega
  obtain ⟨ch, hch⟩ : ∃ ch, s[i + t]? = some ch := ⟨_, List.getElem?_eq_getElem hit⟩
  have hl : ((s.drop i).take 8)[t]? = some ch := by rw [List.getElem?_take_of_lt (by omega), List.getElem?_drop]; exact hch
  have hp := zin _ t ch hl
  have hsm : packL (((s.drop i).take 8).drop (t + 1)) < 72057594037927936 := zil (by rw [List.length_drop, List.length_take]; omega)
  obtain ⟨v, g1, g2, g3⟩ := zim _ ch hsm
  rw [← hp] at g3
  refine ⟨.normal, ⟨3, nEnv2 s i (packL (((s.drop i).take 8).drop t)) ((i + t : Nat) - 1 : Int), nMem W B e a⟩, ?_, .inl ⟨rfl, t, by omega, t, rfl, by omega, by omega, ?_⟩⟩
  ·have e1 : (i : Int) ≤ ((i + (t + 1) : Nat) : Int) - 1 := by omega
   have e2 : ((i + (t + 1) : Nat) : Int) - 1 = ((i + t : Nat) : Int) := by omega
   obtain ⟨k1, hk⟩ : ∃ k1 : Int, k1 = ((i + t : Nat) : Int) - 1 := ⟨_, rfl⟩
   have e3 : IntKind.wrap .i64 (((i + t : Nat) : Int) - 1) = k1 := by rw [wrapI64 (by omega) (by omega), hk]
   rw [e2] at e1 ⊢
   rw [← hk]
   have hb : (bsO s)[i + t]? = some ch := by rw [zbe]; exact hch
   generalize packL (((s.drop i).take 8).drop (t + 1)) = w at *
   generalize packL (((s.drop i).take 8).drop t) = w' at *
   generalize i + t = it at *
   have e1' : i ≤ it := by omega
   simp -implicitDefEqProofs [-intBin, -shiftBin, b_geq, b_sub, x599L1, e1, e1', e3, hb, g1, g2, g3]
  ·generalize packL (((s.drop i).take 8).drop t) = w'
   generalize ((i + t : Nat) : Int) - 1 = k1
   simp -implicitDefEqProofs []
theorem nw_out (c : TextCode code) {W0 B0 : List Nat} {e : Nat} {s : List UInt8} (hs : s.length ≤ 4096) : ∀ (m : Nat) (st : St), (∃ j i W B, i = 8 * j ∧ m + j = tN s ∧ Making W0 B0 e s j W B ∧ st.tidy [1, 4, 6, 7, 8] = ⟨3, nEnv s i, nMem W B (e + 2 + tN s) e⟩) →
  ∃ x s', den code ext (.loop [1, 4, 6, 7, 8] x599L2) st = some (x, s') ∧ x ≠ .normal ∧ (x = .exit 1 ∧ ∃ i W B, Making W0 B0 e s (tN s) W B ∧ s' = ⟨3, nEnv s i ++ [(45, avb false)], nMem W B (e + 2 + tN s) e⟩) := by
 refine zgr _ _ ?_
 rintro m st ⟨j, i, W, B, hij, hm, hmk, hst⟩
 rw [hst]
 by_cases hi : i < s.length
 ·have hj : j < tN s := by unfold tN at *; omega
  have hstep := hmk.step hj
  have hwr := zoc (ext := ext) c.small c.c178 hmk.obj (k := 1 + j) (v := tW s j) (by omega)
  have hl : (W.set (e + 1 + (1 + j)) (tW s j)).length = W.length := List.length_set
  have hmin : ∃ t : Nat, t ≤ 8 ∧ i + t ≤ s.length ∧ (min ((i : Int) + 8) s.length = ((i + t : Nat) : Int)) ∧ ((s.drop i).take 8).drop t = [] := by
   refine ⟨min 8 (s.length - i), by omega, by omega, by omega, ?_⟩
   rw [List.drop_eq_nil_iff, List.length_take, List.length_drop]; omega
  obtain ⟨t, ht8, hts, hmin, hnil⟩ := hmin
  obtain ⟨k0, hk0⟩ : ∃ k0 : Int, k0 = ((i + t : Nat) : Int) - 1 := ⟨_, rfl⟩
  obtain ⟨x, s', h1, _, rfl, rfl⟩ := nw_in (code := code) (ext := ext) W B (e + 2 + tN s) e s hs i t ⟨3, nEnv2 s i 0 k0, nMem W B (e + 2 + tN s) e⟩ ⟨t, rfl, ht8, hts, by rw [hnil, ← hk0]; simp -implicitDefEqProofs [packL]⟩
  have htw : packL ((s.drop i).take 8) = tW s j := by rw [hij]; rfl
  rw [htw] at h1
  obtain ⟨k1, hk1⟩ : ∃ k1 : Int, k1 = (i : Int) - 1 := ⟨_, rfl⟩
  rw [← hk1] at h1
  obtain ⟨i8, hi8⟩ : ∃ i8, i8 = i + 8 := ⟨_, rfl⟩
  have e1 : IntKind.wrap .i64 ((i : Int) + 8) = (i8 : Int) := by rw [wrapI64 (by omega) (by omega)]; omega
  have e2 : (if (s.length : Int) < (i8 : Int) then (s.length : Int) else i8) = k0 + 1 := by
   rw [hk0]; split <;> omega
  have e2' : (if s.length < i8 then (s.length : Int) else i8) = k0 + 1 := by
   rw [hk0]; split <;> omega
  have e3 : IntKind.wrap .i64 (k0 + 1 - 1) = k0 := by rw [wrapI64 (by omega) (by omega)]; omega
  have e3' : IntKind.wrap .i64 k0 = k0 := wrapI64 (by omega) (by omega)
  have e4 : (i : Int).tdiv 8 = j := by rw [Int.tdiv_eq_ediv_of_nonneg (by omega)]; omega
  have e5 : IntKind.wrap .i64 (j : Int) = j := wrapI64 (by unfold tN at *; omega) (by unfold tN at *; omega)
  obtain ⟨j1, hj1⟩ : ∃ j1, j1 = 1 + j := ⟨_, rfl⟩
  have e6 : IntKind.wrap .i64 (1 + (j : Int)) = (j1 : Int) := by rw [wrapI64 (by unfold tN at *; omega) (by unfold tN at *; omega)]; omega
  have e7 : (i : Int) < s.length := by omega
  refine ⟨.normal, ⟨3, nEnv s i8, nMem (W.set (e + 1 + (1 + j)) (tW s j)) B (e + 2 + tN s) e⟩, ?_, .inl ⟨rfl, m - 1, by omega, j + 1, i8, _, _, by omega, by omega, hstep, by simp -implicitDefEqProofs []⟩⟩
  rw [← hj1] at hwr ⊢ hl
  generalize W.set (e + 1 + j1) (tW s j) = W' at *
  generalize e + 2 + tN s = e' at *
  generalize tW s j = w at *
  simp only [nEnv2, nEnv, uint64, u64v, Int.natCast_zero, List.cons_append, List.nil_append] at h1
  simp only [hMem, hl] at hwr
  simp -implicitDefEqProofs [-intBin, b_lss, b_add, b_sub, show ∀ x : Int, intBin .quo .i64 x 8 = some (.int .i64 (IntKind.wrap .i64 (x.tdiv 8))) from fun x => rfl, x599L2, e1, e2, e2', e3, e3', e4, e5, e6, e7, hi, h1, hwr, hl]
 ·have hj : j = tN s := by
   have := hm
   unfold tN at *; omega
  subst hj
  have e1 : ¬ (i : Int) < s.length := by omega
  refine ⟨.exit 1, ⟨3, nEnv s i ++ [(45, avb false)], nMem W B (e + 2 + tN s) e⟩, ?_, .inr ⟨by simp, rfl, i, W, B, hmk, rfl⟩⟩
  generalize e + 2 + tN s = e' at *
  simp -implicitDefEqProofs [x599L2, e1, hi]
end
end Go.EX


set_option linter.unusedVariables false
set_option linter.unusedSimpArgs false
namespace Go.EX
section
variable {code : Nat → Option XFun} {ext : Calls'}
theorem zad (c : TextCode code) {W B : List Nat} {e : Nat} (hW : 1 ≤ W.length) (b : ByteArray) (hb : 4096 < b.size) :
  callW code ext 599 [.optr 0 0, .imm (.val (.string b))] (hMem W B e) = some (.tup [valV 0 0, int64 3], hMem W B e) := by
 have h0 := zhq (ext := ext) c W B e hW
 have e1 : (4096 : Int) < b.size := by omega
 rw [zbk code ext c.c599]
 simp -implicitDefEqProofs [x599, h0, e1, hb]
theorem zae (c : TextCode code) {W B : List Nat} {e : Nat} (hi : HI W B e) (s : List UInt8) (hs : s.length ≤ 4096) (hn : 1 + tN s + e < W.length) :
  ∃ W' B', Making W B e s (tN s) W' B' ∧ callW code ext 599 [.optr 0 0, strO s] (hMem W B e) = some (.tup [valV 3 e, int64 0], hMem W' B' (e + 2 + tN s)) := by
 have h0 := zhq (ext := ext) c W B e hi.pos
 have h1 := zgu (ext := ext) c hi (k := 3) (n := 1 + tN s) (by decide) (by decide) hn
 have hm0 := Making.start hi s hn (by omega)
 have hl1 : (setAll (W.set e ((1 + tN s) * 256 + 3)) (e + 1) (List.replicate (1 + tN s) 0)).length = W.length := by rw [zlu, List.length_set]
 have hb1 : (setBit B e).length = B.length := by simp [setBit]
 have o1 : ObjAt (setAll (W.set e ((1 + tN s) * 256 + 3)) (e + 1) (List.replicate (1 + tN s) 0)) (setBit B e) (e + (1 + tN s) + 1) e (1 + tN s) := by
  have h2 := hi.alloc (n := 1 + tN s) (k := 3) (by decide) hn
  have hbl := hi.bl
  have htop := hi.top
  have hbe : bitAt (setBit B e) e = true := by rw [za8 (by omega)]; simp
  have := h2.obj hbe
  have hh : hd (setAll (W.set e ((1 + tN s) * 256 + 3)) (e + 1) (List.replicate (1 + tN s) 0)) e = 1 + tN s := by
   unfold hd
   rw [zlt, if_neg (by omega), List.getElem?_set_self (by omega)]
   simp only [Option.getD_some]
   omega
  rwa [hh] at this
 have h2 := zoc (ext := ext) c.small c.c178 o1 (k := 0) (v := s.length) (by omega)
 have hl2 : ((setAll (W.set e ((1 + tN s) * 256 + 3)) (e + 1) (List.replicate (1 + tN s) 0)).set (e + 1 + 0) s.length).length = W.length := by rw [List.length_set]; exact hl1
 obtain ⟨x, s', h3, _, rfl, i, W', B', hmk, rfl⟩ := nw_out (code := code) (ext := ext) c (W0 := W) (B0 := B) (e := e) (s := s) hs (tN s) ⟨3, nEnv s 0, nMem ((setAll (W.set e ((1 + tN s) * 256 + 3)) (e + 1) (List.replicate (1 + tN s) 0)).set (e + 1 + 0) s.length) (setBit B e) (e + 2 + tN s) e⟩ ⟨0, 0, _, _, rfl, rfl, hm0, by simp -implicitDefEqProofs []⟩
 refine ⟨W', B', hmk, ?_⟩
 have h4 := zm8 (ext := ext) c W' B' (e + 2 + tN s) e 3
 have hl3 : W'.length = W.length := hmk.sz
 have hb3 : B'.length = B.length := by have := hmk.hi.bl; have := hi.bl; omega
 obtain ⟨L7, hL7⟩ : ∃ L7, L7 = s.length + 7 := ⟨_, rfl⟩
 have e1 : ¬ (4096 : Int) < s.length := by omega
 have e1' : ¬ 4096 < s.length := by omega
 have e3 : IntKind.wrap .i64 ((s.length : Int) + 7) = (L7 : Int) := by rw [wrapI64 (by omega) (by omega)]; omega
 have e4 : ((L7 : Int).tdiv 8) = tN s := by
  rw [Int.tdiv_eq_ediv_of_nonneg (by omega)]; unfold tN; omega
 have hN : tN s ≤ 520 := by unfold tN; omega
 have e5 : IntKind.wrap .i64 (tN s : Int) = tN s := wrapI64 (by omega) (by omega)
 have e6 : IntKind.wrap .i64 (1 + (tN s : Int)) = ((1 + tN s : Nat) : Int) := by rw [wrapI64 (by omega) (by omega)]; omega
 have e7 : IntKind.wrap .u64 (s.length : Int) = s.length := wrapU64 (by omega) (by omega)
 have e8 : e + (1 + tN s) + 1 = e + 2 + tN s := by omega
 rw [e8] at h1 h2
 generalize setAll (W.set e ((1 + tN s) * 256 + 3)) (e + 1) (List.replicate (1 + tN s) 0) = W1 at *
 generalize W1.set (e + 1 + 0) s.length = W2 at *
 generalize setBit B e = B1 at *
 generalize e + 2 + tN s = e' at *
 generalize 1 + tN s = M at *
 generalize tN s = N at *
 simp only [hMem, hl1, hb1, hl2, Int.natCast_zero, Int.cast_ofNat_Int] at h1 h2
 simp only [nEnv, nMem, hl2, hl3, hb1, hb3, Int.natCast_zero, List.cons_append, List.nil_append] at h3
 simp only [hMem, hl3, hb3, Int.cast_ofNat_Int] at h4
 rw [zbk code ext c.c599]
 simp -implicitDefEqProofs [-intBin, b_gtr, b_add, b_neq, show ∀ x : Int, intBin .quo .i64 x 8 = some (.int .i64 (IntKind.wrap .i64 (x.tdiv 8))) from fun x => rfl, x599, h0, e1, e1', e3, e4, e5, e6, e7, h1, h2, h3, h4, hl1, hl2, hl3, hb1, hb3]
end
end Go.EX


set_option linter.unusedVariables false
set_option linter.unusedSimpArgs false
namespace Go.EX
section
variable {code : Nat → Option XFun} {ext : Calls'}
theorem zf9 (c : TextCode code) {W B : List Nat} {e : Nat} (hi : HI W B e) (i : Int) : ∃ b, callW code ext 614 [.optr 0 0, int64 i] (hMem W B e) = some (.tup [objV i 8, avb b], hMem W B e) := by
 by_cases h : 0 ≤ i ∧ bitAt B i.toNat = true
 ·obtain ⟨h0, hb⟩ := h
  obtain ⟨a, rfl⟩ : ∃ a : Nat, i = a := ⟨i.toNat, by omega⟩
  rw [Int.toNat_natCast] at hb
  have o := hi.obj hb
  obtain ⟨w, w1, _, _⟩ := o.head
  have h1 := zf2 (ext := ext) c o w1
  refine ⟨decide (((w % 256 : Nat) : Int) = 8), ?_⟩
  generalize w % 256 = q at *
  rw [zbk code ext c.c614]
  simp -implicitDefEqProofs [x614, h1]
 ·have h1 := zf1 (ext := ext) c hi.pos (by have := hi.top; have := hi.bd; omega) (hi.none (i := i) fun h0 => by
   cases hb : bitAt B i.toNat with
   | false => rfl
   | true => exact absurd ⟨h0, hb⟩ h)
  refine ⟨false, ?_⟩
  rw [zbk code ext c.c614]
  simp -implicitDefEqProofs [x614, h1]
theorem zfp (c : TextCode code) {W B : List Nat} {e a : Nat} {s : List UInt8} (hi : HI W B e) (h : TextAt W B e a s) (hs : 0 < s.length) : ∃ x b, callW code ext 276 [objV a 3] (hMem W B e) = some (.tup [objV x 8, avb b], hMem W B e) := by
 have hw : callW code ext 286 [objV a 3, int64 1] (hMem W B e) = some (uint64 (tW s 0), hMem W B e) :=
  zn7 (ext := ext) c (h.obj hi) (i := 1) (by unfold tN; omega) (by rw [← h.word 0 (by unfold tN; omega)]) 3
 obtain ⟨b, h1⟩ := zf9 (code := code) (ext := ext) c hi (IntKind.wrap .i64 (IntKind.wrap .u64 ((tW s 0 : Int) - 1)))
 refine ⟨IntKind.wrap .i64 (IntKind.wrap .u64 ((tW s 0 : Int) - 1)), b, ?_⟩
 rw [zbk code ext c.c276]
 simp -implicitDefEqProofs [x276, hw, h1, exTouch]
theorem zaa (c : TextCode code) {W B : List Nat} {e a : Nat} {s : List UInt8} (hi : HI W B e) (h : TextAt W B e a s) (hs : s.length ≤ 4096) {k : Nat} {ch : UInt8} (hk : s[k]? = some ch) (hn : e + 3 ≤ W.length) :
  ∃ W' B', Making W B e [ch] 1 W' B' ∧ callW code ext 592 [.optr 0 0, valV 3 a, valV 2 k] (hMem W B e) = some (.tup [valV 3 e, int64 0], hMem W' B' (e + 3)) := by
 have hkl : k < s.length := (List.getElem?_eq_some_iff.1 hk).1
 have h1 := zd6 (ext := ext) c hi h hs [.val (.int .u8 4), .val (.int .u8 5)] 3 rfl
 obtain ⟨x, b, h2⟩ := zfp (code := code) (ext := ext) c hi h (by omega)
 have hw : callW code ext 286 [objV a 3, int64 0] (hMem W B e) = some (uint64 s.length, hMem W B e) := zn7 (ext := ext) c (h.obj hi) (i := 0) (by omega) (by simpa using h.len) 3
 have h3 := zm5 (ext := ext) c hi h hs
 have ht1 : tN [ch] = 1 := by simp [tN]
 obtain ⟨W', B', hmk, h4⟩ := zae (code := code) (ext := ext) c hi [ch] (by simp) (by rw [ht1]; omega)
 rw [ht1] at hmk h4
 refine ⟨W', B', hmk, ?_⟩
 have hl3 : W'.length = W.length := hmk.sz
 have hb3 : B'.length = B.length := by have := hmk.hi.bl; have := hi.bl; omega
 have e1 : IntKind.wrap .i64 (s.length : Int) = s.length := wrapI64 (by omega) (by omega)
 obtain ⟨k1, hk1⟩ : ∃ k1, k1 = k + 1 := ⟨_, rfl⟩
 have e2 : IntKind.wrap .i64 ((k : Int) + 1) = (k1 : Int) := by rw [wrapI64 (by omega) (by omega)]; omega
 have e3 : ¬ (s.length : Int) ≤ k := by omega
 have e3' : ¬ s.length ≤ k := by omega
 have e4 : ¬ (k : Int) < 0 := by omega
 have e5 : (k : Int) ≤ k1 := by omega
 have e5' : k ≤ k1 := by omega
 have e6 : (k1 : Int) ≤ s.length := by omega
 have e6' : k1 ≤ s.length := by omega
 have e7 : (bsO s).extract k k1 = bsO [ch] := by
  rw [zbd, hk1, Nat.add_sub_cancel_left, List.drop_eq_getElem_cons hkl]
  have : s[k] = ch := by rw [List.getElem?_eq_getElem hkl] at hk; exact Option.some.inj hk
  rw [this]; rfl
 have h4' : callW code ext 599 [.optr 0 0, strO [ch]] (hMem W B e) = some (.tup [valV 3 e, int64 0], hMem W' B' (e + 3)) := h4
 generalize e + 3 = e' at *
 simp only [hMem, hl3, hb3] at h4'
 rw [zbk code ext c.c592]
 simp -implicitDefEqProofs [x592, h1, h2, hw, h3, h4', e1, e2, e3, e3', e4, e5, e5', e6, e6', e7, exTouch, hl3, hb3]
end
end Go.EX


set_option linter.unusedVariables false
set_option linter.unusedSimpArgs false
namespace Go.EX
abbrev otEnv (s : List UInt8) (k : Nat) : Env := [(0, strO s), (3, .optr 0 0), (4, .optr 1 0), (12, int64 k)]
abbrev otMem (W B : List Nat) (e : Nat) : Mem := kMem W B e (.rich [uint8 3, int64 0])
structure OT (s : List UInt8) (W B : List Nat) (e : Nat) : Prop where
 hi : HI W B e
 at0 : TextAt W B e 0 s
 len : W.length = 2000
 lenB : B.length = 32
theorem OT.more {s t : List UInt8} {W B W' B' : List Nat} {e : Nat} (h : OT s W B e) (hm : Making W B e t (tN t) W' B') : OT s W' B' (e + 2 + tN t) := by
 refine ⟨hm.hi, h.at0.more (by omega) hm.old hm.bits, hm.sz.trans h.len, ?_⟩
 have h1 := hm.hi.bl
 have h2 := hm.sz
 have h3 := h.len
 rw [h2, h3] at h1
 simpa using h1
section
variable {code : Nat → Option XFun} {ext : Calls'}
theorem zia (c : TextCode code) {s : List UInt8} (hs : s.length ≤ 4096) {W B : List Nat} {e k : Nat} (h : OT s W B e) (hk : k < s.length) (hk20 : k < 20) (he : e ≤ 1100) :
  ∃ s' W' B', den code ext x433L1 ⟨0, otEnv s k, otMem W B e⟩ = some (.normal, s') ∧ OT s W' B' (e + 3) ∧ s'.tidy [0, 3, 4, 12] = ⟨0, otEnv s (k + 1), otMem W' B' (e + 3)⟩ := by
 obtain ⟨ch, hch⟩ : ∃ ch, s[k]? = some ch := ⟨_, List.getElem?_eq_getElem hk⟩
 have hlen := h.len
 obtain ⟨W', B', hmk, h1⟩ := zaa (code := code) (ext := ext) c h.hi h.at0 hs hch (by omega)
 have ht1 : tN [ch] = 1 := by simp [tN]
 have hOT : OT s W' B' (e + 3) := by
  have := h.more (t := [ch]) (by rw [ht1]; exact hmk)
  rwa [ht1] at this
 have htx : TextAt W' B' (e + 3) e [ch] := by
  have := Making.text (s := [ch]) (by rw [ht1]; exact hmk)
  rwa [ht1] at this
 have h2 := zag (ext := ext) c hOT.hi htx (by simp)
 have hl := hOT.len
 have hlb := hOT.lenB
 have hlb0 := h.lenB
 have h3 : callW code ext 437 [int64 k] [] = some (valV 2 k, []) := by
  rw [zbk code ext c.c437]
  simp -implicitDefEqProofs [x437]
 obtain ⟨k1, hk1⟩ : ∃ k1, k1 = k + 1 := ⟨_, rfl⟩
 have e1 : (k : Int) < s.length := by omega
 have e2 : (k : Int) < 20 := by omega
 have e3 : IntKind.wrap .i64 ((k : Int) + 1) = (k1 : Int) := by rw [wrapI64 (by omega) (by omega)]; omega
 have e5 : (k : Int) ≤ k1 := by omega
 have e5' : k ≤ k1 := by omega
 have e6 : (k1 : Int) ≤ s.length := by omega
 have e6' : k1 ≤ s.length := by omega
 have e7 : (bsO s).extract k k1 = bsO [ch] := by
  rw [zbd, hk1, Nat.add_sub_cancel_left, List.drop_eq_getElem_cons hk]
  have : s[k] = ch := by rw [List.getElem?_eq_getElem hk] at hch; exact Option.some.inj hch
  rw [this]; rfl
 refine ⟨⟨0, otEnv s k1, otMem W' B' (e + 3) ++ [.rich [uint8 3, int64 e]]⟩, W', B', ?_, hOT, ?_⟩
 ·have e8 := hk
  have e9 := hk20
  simp only [hMem, hlen, hl, hlb, hlb0, Int.natCast_zero] at h1 h2
  clear hmk htx hOT
  generalize e + 3 = e' at *
  simp -implicitDefEqProofs [-intBin, b_lss, b_add, b_neq, x433L1, h1, h2, h3, e1, e2, e3, e5, e5', e6, e6', e7, e8, e9, hlen, hl, hlb, hlb0, exTouch]
 ·rw [← hk1]
  generalize e + 3 = e' at *
  simp -implicitDefEqProofs []
theorem zh9 (c : TextCode code) {s : List UInt8} (hs : s.length ≤ 4096) : ∀ (m : Nat) (st : St), (∃ k W B e, m + k = 20 ∧ e ≤ 1028 + 3 * k ∧ OT s W B e ∧ st.tidy [0, 3, 4, 12] = ⟨0, otEnv s k, otMem W B e⟩) →
  ∃ x s', den code ext (.loop [0, 3, 4, 12] x433L1) st = some (x, s') ∧ x ≠ .normal ∧ (x = .exit 0 ∧ ∃ k W B e, e ≤ 1088 ∧ OT s W B e ∧ s' = ⟨0, otEnv s k ++ [(111, avb false)], otMem W B e⟩) := by
 refine zgr _ _ ?_
 rintro m st ⟨k, W, B, e, hm, he, h, hst⟩
 rw [hst]
 by_cases hk : k < s.length ∧ k < 20
 ·obtain ⟨s', W', B', h1, h2, h3⟩ := zia (code := code) (ext := ext) c hs h hk.1 hk.2 (by omega)
  exact ⟨_, s', h1, .inl ⟨rfl, m - 1, by omega, k + 1, W', B', e + 3, by omega, by omega, h2, h3⟩⟩
 ·refine ⟨.exit 0, ⟨0, otEnv s k ++ [(111, avb false)], otMem W B e⟩, ?_, .inr ⟨by simp, rfl, k, W, B, e, by omega, h, rfl⟩⟩
  by_cases e1 : k < s.length
  ·have e2 : ¬ k < 20 := fun h => hk ⟨e1, h⟩
   have e2' : ¬ (k : Int) < 20 := by omega
   simp -implicitDefEqProofs [x433L1, e1, e2, e2']
  ·simp -implicitDefEqProofs [x433L1, e1]
theorem zex (c : TextCode code) : callW code ext 436 [int64 2000] [] = some (.optr 0 0, hMem (List.replicate 2000 0) (List.replicate 32 0) 0) := by
 have h1 : callW code ext 567 [int64 2000] [] = some (.tup [.optr 0 0, int64 0], hMem (List.replicate 2000 0) (List.replicate 32 0) 0) := new_ok (ext := ext) c.c567 2000 (by decide) (by decide)
 have e1 : (List.replicate 2000 (0 : Nat)).length = 2000 := List.length_replicate
 have e2 : (List.replicate 32 (0 : Nat)).length = 32 := List.length_replicate
 generalize List.replicate 2000 (0 : Nat) = W at *
 generalize List.replicate 32 (0 : Nat) = B at *
 simp only [hMem, e1, e2] at h1
 rw [zbk code ext c.c436]
 simp -implicitDefEqProofs [x436, h1, e1, e2]
set_option maxHeartbeats 1000000 in
theorem zhp (c : TextCode code) (h433 : code 433 = some x433) (hal : callW code ext 434 [] [] = some (avb true, [])) (b : ByteArray) :
  callW code ext 433 [.imm (.val (.string b))] [] = some (avb true, []) := by
 have h0 := zex (code := code) (ext := ext) c
 have hi0 : HI (List.replicate 2000 0) (List.replicate 32 0) 0 := HI.new 2000 (by decide) (by decide)
 have l1 : (List.replicate 2000 (0 : Nat)).length = 2000 := List.length_replicate
 have l2 : (List.replicate 32 (0 : Nat)).length = 32 := List.length_replicate
 generalize List.replicate 2000 (0 : Nat) = W0 at *
 generalize List.replicate 32 (0 : Nat) = B0 at *
 by_cases hb : 4096 < b.size
 ·have h1 := zad (ext := ext) c (W := W0) (B := B0) (e := 0) (by omega) b hb
  have h2 := znz (ext := ext) c.c176 W0 B0 0
  have e1 : (4096 : Int) < b.size := by omega
  simp only [hMem, l1, l2, Int.natCast_zero] at h0 h1 h2
  rw [zbk code ext h433]
  simp -implicitDefEqProofs [x433, h0, h1, h2, hal, e1, hb]
 ·obtain ⟨s, rfl⟩ : ∃ s, bsO s = b := ⟨_, bsO_of b⟩
  rw [bsO_size] at hb
  have hs : s.length ≤ 4096 := by omega
  have hN : tN s ≤ 512 := by unfold tN; omega
  obtain ⟨W1, B1, m1, h1⟩ := zae (code := code) (ext := ext) c hi0 s hs (by omega)
  have l3 : W1.length = 2000 := m1.sz.trans l1
  have l4 : B1.length = 32 := by have h2 := m1.hi.bl; rw [l3] at h2; simpa using h2
  have t1 := m1.text
  have o1 : OT s W1 B1 (0 + 2 + tN s) := ⟨m1.hi, t1, l3, l4⟩
  have h2 := zag (ext := ext) c m1.hi t1 hs
  have h3 := zac (ext := ext) c m1.hi t1 hs
  obtain ⟨W2, B2, m2, h4⟩ := zae (code := code) (ext := ext) c m1.hi s hs (by omega)
  have o2 := o1.more m2
  have l5 := o2.len
  have l6 := o2.lenB
  have h5 := znz (ext := ext) c.c176 W2 B2 (0 + 2 + tN s + 2 + tN s)
  have h6 := zaf (ext := ext) c o2.hi o2.at0 m2.text hs hs (fun _ => rfl)
  obtain ⟨x, s', h7, _, rfl, k, W3, B3, e3, he3, o3, rfl⟩ := zh9 (code := code) (ext := ext) c hs 20 ⟨0, [(0, strO s), (3, .optr 0 0), (4, .optr 3 0), (12, int64 0)], hMem W2 B2 (0 + 2 + tN s + 2 + tN s) ++ [.rich [uint8 3, int64 0], .rich [uint8 3, int64 (0 + 2 + tN s : Nat)]]⟩ ⟨0, W2, B2, _, rfl, by omega, o2, by generalize 0 + 2 + tN s = e10; generalize e10 + 2 + tN s = e11; simp -implicitDefEqProofs []⟩
  have l7 := o3.len
  have l8 := o3.lenB
  obtain ⟨e2, he2⟩ : ∃ e2, e2 = 0 + 2 + tN s + 2 + tN s := ⟨_, rfl⟩
  obtain ⟨L7, hL7⟩ : ∃ L7, L7 = s.length + 7 := ⟨_, rfl⟩
  obtain ⟨N2, hN2⟩ : ∃ N2, N2 = 2 + tN s := ⟨_, rfl⟩
  have e1 : ¬ (4096 : Int) < s.length := by omega
  have e1' : ¬ 4096 < s.length := hb
  have e4 : IntKind.wrap .i64 ((s.length : Int) + 7) = (L7 : Int) := by rw [wrapI64 (by omega) (by omega)]; omega
  have e5 : ((L7 : Int).tdiv 8) = tN s := by
   rw [Int.tdiv_eq_ediv_of_nonneg (by omega)]; unfold tN; omega
  have e6 : IntKind.wrap .i64 (tN s : Int) = tN s := wrapI64 (by omega) (by omega)
  have e7 : IntKind.wrap .i64 (2 + (tN s : Int)) = (N2 : Int) := by rw [wrapI64 (by omega) (by omega)]; omega
  have e8 : IntKind.wrap .i64 (2 * (N2 : Int)) = (e2 : Int) := by rw [wrapI64 (by omega) (by omega)]; omega
  have hadd : bsO s ++ (⟨#[33]⟩ : ByteArray) = bsO (s ++ [33]) := zbc s [33]
  have a1 : s.length + 1 ≤ 9223372036854775807 := by omega
  have a2 : (⟨#[33]⟩ : ByteArray).size = 1 := rfl
  by_cases hlast : s.length = 4096
  ·have h8 := zad (ext := ext) c (W := W3) (B := B3) (e := e3) (by omega) (bsO (s ++ [33])) (by simp [hlast])
   have hl4 : (s.length : Int) = 4096 := by omega
   rw [← he2] at h4 h5 h6 h7
   generalize 0 + 2 + tN s = e10 at *
   generalize tN s = N at *
   simp only [hMem, l1, l2, l3, l4, l5, l6, l7, l8, Int.natCast_zero, decide_true] at h0 h1 h2 h3 h4 h5 h6 h8
   simp only [hMem, otEnv, otMem, l5, l6, l7, l8, Int.natCast_zero, List.cons_append, List.nil_append] at h7
   rw [zbk code ext h433]
   simp -implicitDefEqProofs [-intBin, b_gtr, b_add, b_neq, b_eql, show ∀ x : Int, intBin .quo .i64 x 8 = some (.int .i64 (IntKind.wrap .i64 (x.tdiv 8))) from fun x => rfl, show ∀ x : Int, intBin .mul .i64 2 x = some (.int .i64 (IntKind.wrap .i64 (2 * x))) from fun x => rfl, x433, h0, h1, h2, h3, h4, h5, h6, h7, h8, hal, e1, e1', e4, e5, e6, e7, e8, hadd, a1, a2, eq_true hl4, eq_true hlast, l1, l2, l3, l4, l5, l6, l7, l8]
  ·have hN3 : tN (s ++ [33]) ≤ 513 := by unfold tN; simp; omega
   obtain ⟨W4, B4, m4, h8⟩ := zae (code := code) (ext := ext) c o3.hi (s ++ [33]) (by simp; omega) (by omega)
   have o4 := o3.more m4
   have l9 := o4.len
   have l10 := o4.lenB
   have hne : ¬ s = s ++ [33] := fun h => by have := congrArg List.length h; simp at this
   have h9 := zaf (ext := ext) c o4.hi o4.at0 m4.text hs (by simp; omega) (fun h => absurd h (by have := o3.at0.top; omega))
   generalize e3 + 2 + tN (s ++ [33]) = e12 at *
   rw [← he2] at h4 h5 h6 h7
   generalize 0 + 2 + tN s = e10 at *
   generalize tN s = N at *
   simp only [hMem, l1, l2, l3, l4, l5, l6, l7, l8, l9, l10, Int.natCast_zero, decide_true, hne, decide_false] at h0 h1 h2 h3 h4 h5 h6 h8 h9
   simp only [hMem, otEnv, otMem, l5, l6, l7, l8, Int.natCast_zero, List.cons_append, List.nil_append] at h7
   rw [zbk code ext h433]
   simp -implicitDefEqProofs [-intBin, b_gtr, b_add, b_neq, b_eql, show ∀ x : Int, intBin .quo .i64 x 8 = some (.int .i64 (IntKind.wrap .i64 (x.tdiv 8))) from fun x => rfl, show ∀ x : Int, intBin .mul .i64 2 x = some (.int .i64 (IntKind.wrap .i64 (2 * x))) from fun x => rfl, x433, h0, h1, h2, h3, h4, h5, h6, h7, h8, h9, hal, e1, e1', e4, e5, e6, e7, e8, hadd, a1, a2, l1, l2, l3, l4, l5, l6, l7, l8, l9, l10]
end
end Go.EX


set_option linter.unusedVariables false
set_option linter.unusedSimpArgs false
namespace Go.EX
theorem alive3 (ext : Calls') : callW code3 ext 434 [] [] = some (.imm (.val (.bool true)), []) := (zbl code3 ext).2 ⟨60, by kernel_rfl⟩
end Go.EX


set_option linter.unusedVariables false
namespace Go.EX
theorem textCode3 : TextCode code3 := ⟨⟨rfl, rfl, rfl, rfl, rfl⟩, rfl, rfl, rfl, rfl, rfl, rfl, rfl, rfl, rfl, rfl, rfl, rfl, rfl, rfl, rfl, rfl, rfl, rfl, rfl, rfl, rfl, rfl, rfl, rfl, rfl, rfl, rfl, rfl, rfl⟩
theorem objectTexts3 (ext : Calls') (b : ByteArray) : callW code3 ext 433 [.imm (.val (.string b))] [] = some (avb true, []) := zhp textCode3 rfl (alive3 ext) b
end Go.EX

