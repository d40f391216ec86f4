import Derived.Test.YtdmjigplboafjaaK10
import Derived.Test.YtdmjigplboafjaaK9
import Derived.Lib.TrailingZeros
import Derived.Lib.ItoaNum
set_option linter.unusedVariables false
set_option linter.unusedSimpArgs false
namespace Go.EX
theorem place64 {i : Nat} (h : i ≤ 1000000000) : ∃ q r : Nat, i / 64 = q ∧ i % 64 = r ∧ r < 64 ∧ IntKind.wrap .i64 ((i : Int).tdiv 64) = q ∧ IntKind.wrap .i64 ((i : Int) / 64) = q ∧ (i : Int).tmod 64 = r ∧ (i : Int) % 64 = r := by
 refine ⟨i / 64, i % 64, rfl, rfl, by omega, ?_, ?_, ?_, ?_⟩
 ·rw [Int.tdiv_eq_ediv_of_nonneg (by omega), wrapI64 (by omega) (by omega)]; omega
 ·rw [wrapI64 (by omega) (by omega)]; omega
 ·rw [Int.tmod_eq_emod_of_nonneg (by omega)]; omega
 ·omega
theorem shrNat (a j : Nat) (h : j ≤ 64) : (a : Int).fdiv (2 ^ (min ((j : Int).toNat) (IntKind.bits .u64))) = ((a / 2 ^ j : Nat) : Int) := by
 have : min ((j : Int).toNat) (IntKind.bits .u64) = j := by simp [IntKind.bits]; omega
 rw [this, Int.fdiv_eq_ediv_of_nonneg _ (Int.pow_nonneg (by decide))]
 simp
theorem wrapU64N {a : Nat} (h : a < 18446744073709551616) : IntKind.wrap .u64 (a : Int) = (a : Int) := wrapU64 (by omega) (by omega)
theorem ofIntN (a : Nat) : BitVec.ofInt 64 (a : Int) = BitVec.ofNat 64 a := by simp
theorem andNat {a b : Nat} (ha : a < 18446744073709551616) (hb : b < 18446744073709551616) : IntKind.wrap .u64 ((BitVec.ofInt 64 (a : Int) &&& BitVec.ofInt 64 (b : Int)).toNat : Int) = ((a &&& b : Nat) : Int) := by
 rw [ofIntN, ofIntN, BitVec.toNat_and, BitVec.toNat_ofNat, BitVec.toNat_ofNat, Nat.mod_eq_of_lt ha, Nat.mod_eq_of_lt hb]
 exact wrapU64N (Nat.lt_of_le_of_lt Nat.and_le_left ha)
theorem orNat {a b : Nat} (ha : a < 18446744073709551616) (hb : b < 18446744073709551616) : IntKind.wrap .u64 ((BitVec.ofInt 64 (a : Int) ||| BitVec.ofInt 64 (b : Int)).toNat : Int) = ((a ||| b : Nat) : Int) := by
 rw [ofIntN, ofIntN, BitVec.toNat_or, BitVec.toNat_ofNat, BitVec.toNat_ofNat, Nat.mod_eq_of_lt ha, Nat.mod_eq_of_lt hb]
 exact wrapU64N (Nat.or_lt_two_pow (n := 64) ha hb)
theorem shl1 {j : Nat} (h : j < 64) : IntKind.wrap .u64 (1 * 2 ^ (min ((j : Int).toNat) (IntKind.bits .u64))) = ((2 ^ j : Nat) : Int) := by
 have : min ((j : Int).toNat) (IntKind.bits .u64) = j := by simp [IntKind.bits]; omega
 have h2 : (2 : Nat) ^ j < 2 ^ 64 := Nat.pow_lt_pow_right (by decide) h
 rw [this, Int.one_mul]
 have := wrapU64N (a := 2 ^ j) h2
 simpa using this
theorem zbx (a j : Nat) : decide ((((a / 2 ^ j) &&& 1 : Nat) : Int) = 1) = a.testBit j := by
 rw [Nat.and_one_is_mod, ← Nat.shiftRight_eq_div_pow]
 unfold Nat.testBit
 rw [Nat.and_comm, Nat.and_one_is_mod]
 by_cases h : (a >>> j) % 2 = 1
 ·simp [h]
 ·have : (a >>> j) % 2 = 0 := by omega
  simp [this]
theorem zdc {a : Nat} (h : a < 18446744073709551616) (j : Nat) : a / 2 ^ j < 18446744073709551616 := Nat.lt_of_le_of_lt (Nat.div_le_self ..) h
abbrev u64v (n : Nat) : IV := .val (.int .u64 (n : Int))
abbrev uint64 (n : Nat) : AV := .imm (u64v n)
def bitAt (B : List Nat) (i : Nat) : Bool := ((B[i / 64]?).getD 0).testBit (i % 64)
def urow (B : List Nat) : List IV := B.map u64v
theorem zqz {B : List Nat} {i b : Nat} (h : B[i]? = some b) : (urow B)[i]? = some (u64v b) := by simp [urow, h]
theorem zqy {B : List Nat} {i b : Nat} (h : B[i]? = some b) : ∀ hh : i < (urow B).length, (urow B)[i] = u64v b := fun hh => by
 have := zqz h
 rw [List.getElem?_eq_getElem hh] at this
 exact Option.some.inj this
theorem zq0 (B : List Nat) : (urow B).length = B.length := by simp [urow]
theorem zq1 (B : List Nat) (i b : Nat) : (urow B).set i (u64v b) = urow (B.set i b) := by simp [urow]
abbrev hMem (W B : List Nat) (e : Nat) : Mem := [.rich [.osl 1 0 1 W.length (some W.length), .osl 2 0 1 B.length (some B.length), int64 e], .flat (urow W) false, .flat (urow B) false]
theorem b_add (k : IntKind) (a b : Int) : intBin .add k a b = some (.int k (k.wrap (a + b))) := rfl
theorem b_sub (k : IntKind) (a b : Int) : intBin .sub k a b = some (.int k (k.wrap (a - b))) := rfl
theorem b_eql (k : IntKind) (a b : Int) : intBin .eql k a b = some (.bool (a == b)) := rfl
theorem b_neq (k : IntKind) (a b : Int) : intBin .neq k a b = some (.bool (a != b)) := rfl
theorem b_lss (k : IntKind) (a b : Int) : intBin .lss k a b = some (.bool (a < b)) := rfl
theorem b_leq (k : IntKind) (a b : Int) : intBin .leq k a b = some (.bool (a ≤ b)) := rfl
theorem b_gtr (k : IntKind) (a b : Int) : intBin .gtr k a b = some (.bool (a > b)) := rfl
theorem b_geq (k : IntKind) (a b : Int) : intBin .geq k a b = some (.bool (a ≥ b)) := rfl
theorem zk3 {i : Nat} (h : i ≤ 1000000000) : ∃ q r : Nat, i / 64 = q ∧ i % 64 = r ∧ r < 64 ∧ intBin .quo .i64 i 64 = some (.int .i64 q) ∧ intBin .rem .i64 i 64 = some (.int .i64 r) := by
 obtain ⟨q, r, h1, h2, h3, h4, _, h5, _⟩ := place64 h
 exact ⟨q, r, h1, h2, h3, by simp only [intBin, h4]; rfl, by simp only [intBin, h5]; rfl⟩
theorem zpa (a j : Nat) (h : j ≤ 64) : shiftBin .shr .u64 a j = some (.int .u64 (a / 2 ^ j : Nat)) := by
 unfold shiftBin
 rw [if_neg (by omega), shrNat a j h]
theorem zo8 {j : Nat} (h : j < 64) : shiftBin .shl .u64 1 j = some (.int .u64 (2 ^ j : Nat)) := by
 unfold shiftBin
 rw [if_neg (by omega), shl1 h]
theorem za8 {a b : Nat} (ha : a < 18446744073709551616) (hb : b < 18446744073709551616) : intBin .and .u64 a b = some (.int .u64 (a &&& b : Nat)) := by
 unfold intBin
 rw [← andNat ha hb]; rfl
theorem zby (b r : Nat) (hb : b < 18446744073709551616) (hr : r < 64) : ∃ c g : Nat, shiftBin .shr .u64 b r = some (.int .u64 c) ∧ intBin .and .u64 c 1 = some (.int .u64 g) ∧ decide ((g : Int) = 1) = b.testBit r :=
 ⟨_, _, zpa b r (by omega), za8 (zdc hb r) (b := 1) (by decide), zbx b r⟩
theorem or_bin {a b : Nat} (ha : a < 18446744073709551616) (hb : b < 18446744073709551616) : intBin .or .u64 a b = some (.int .u64 (a ||| b : Nat)) := by
 unfold intBin
 rw [← orNat ha hb]; rfl
end Go.EX


set_option linter.unusedVariables false
set_option linter.unusedSimpArgs false
namespace Go.EX
section
variable {code : Nat → Option XFun} {ext : Calls'}
theorem is_yes (h : code 183 = some x183) (W B : List Nat) (e i b : Nat) (hi : i < e) (hb : B[i / 64]? = some b) (hlt : b < 18446744073709551616) (hbd : e ≤ 1000000000) :
  callW code ext 183 [.optr 0 0, int64 i] (hMem W B e) = some (avb (b.testBit (i % 64)), hMem W B e) := by
 rw [zb5 code ext h]
 have h0 : (0 : Int) ≤ i := by omega
 have h1 : (i : Int) < e := by omega
 obtain ⟨q, r, hq, hr, hr64, e1, e2⟩ := zk3 (i := i) (by omega)
 rw [hq] at hb
 rw [hr]
 have h4 := zqz hb
 have h5 : q < B.length := (List.getElem?_eq_some_iff.1 hb).1
 obtain ⟨c, g, h7, h8, h9⟩ := zby b r hlt hr64
 simp -implicitDefEqProofs [-intBin, -shiftBin, b_geq, b_lss, b_eql, x183, h0, h1, e1, e2, h4, h5, h7, h8, h9]
theorem is_no (h : code 183 = some x183) (W B : List Nat) (e : Nat) (i : Int) (hi : ¬ (0 ≤ i ∧ i < e)) :
  callW code ext 183 [.optr 0 0, int64 i] (hMem W B e) = some (avb false, hMem W B e) := by
 rw [zb5 code ext h]
 by_cases h0 : 0 ≤ i
 ·have h1 : ¬ i < e := fun h => hi ⟨h0, h⟩
  simp -implicitDefEqProofs [x183, h0, h1]
 ·simp -implicitDefEqProofs [x183, h0]
end
end Go.EX


set_option linter.unusedVariables false
set_option linter.unusedSimpArgs false
namespace Go.EX
section
variable {code : Nat → Option XFun} {ext : Calls'}
theorem zgb (h : code 182 = some x182) (W B : List Nat) (e : Nat) (hW : 1 ≤ W.length) : callW code ext 182 [.optr 0 0] (hMem W B e) = some (avb false, hMem W B e) := by
 rw [zb5 code ext h]
 have h1 : ¬ ((W.length : Int) = 0) := by omega
 have h2 : W ≠ [] := by rintro rfl; simp at hW
 simp -implicitDefEqProofs [x182, h1, h2]
theorem zq2 (h : code 176 = some x176) (W B : List Nat) (e : Nat) : callW code ext 176 [.optr 0 0] (hMem W B e) = some (int64 e, hMem W B e) := by
 rw [zb5 code ext h]
 simp -implicitDefEqProofs [x176]
theorem zrg (h : code 177 = some x177) (W B : List Nat) (e : Nat) : callW code ext 177 [.optr 0 0] (hMem W B e) = some (int64 W.length, hMem W B e) := by
 rw [zb5 code ext h]
 simp -implicitDefEqProofs [x177]
theorem zpb (w : Nat) : shiftBin .shr .u64 w 8 = some (.int .u64 ((w / 256 : Nat) : Int)) := zpa w 8 (by omega)
theorem zpd (h : code 186 = some x186) (W B : List Nat) (e i w n : Nat) (hw : W[i]? = some w) (hn : w / 256 = n) (hlt : w < 18446744073709551616) :
  callW code ext 186 [.optr 0 0, int64 i] (hMem W B e) = some (int64 n, hMem W B e) := by
 rw [zb5 code ext h]
 have h1 := zqz hw
 have h2 : (i : Int) < W.length := by have := (List.getElem?_eq_some_iff.1 hw).1; omega
 have h3 := zpb w
 rw [hn] at h3
 have h4 : IntKind.wrap .i64 (n : Int) = n := wrapI64 (by omega) (by omega)
 have h5 : i < W.length := by omega
 simp -implicitDefEqProofs [-shiftBin, x186, h1, h2, h3, h4, h5]
abbrev ownSl (W : List Nat) (i n : Nat) : AV := .osl 1 (i + 1) 1 n (some (W.length - (i + 1)))
theorem zkg (h : code 186 = some x186) (h' : code 185 = some x185) (W B : List Nat) (e i w n : Nat) (hw : W[i]? = some w) (hn : w / 256 = n) (hlt : w < 18446744073709551616) (hi : i + 1 + n ≤ W.length) (hbd : W.length ≤ 1048576) :
  callW code ext 185 [.optr 0 0, int64 i] (hMem W B e) = some (ownSl W i n, hMem W B e) := by
 have h1 := zpd (ext := ext) h W B e i w n hw hn hlt
 rw [zb5 code ext h']
 have e1 : IntKind.wrap .i64 ((i : Int) + 1) = (i : Int) + 1 := wrapI64 (by omega) (by omega)
 have e2 : IntKind.wrap .i64 ((i : Int) + 1 + n) = (i : Int) + 1 + n := wrapI64 (by omega) (by omega)
 have e3 : (i : Int) + 1 ≤ (i : Int) + 1 + n := by omega
 have e4 : (i : Int) + 1 + n ≤ W.length := by omega
 have e5 : (0 : Int) ≤ (i : Int) + 1 := by omega
 have e6 : ((i : Int) + 1).toNat = i + 1 := by omega
 have e7 : ((i : Int) + 1 + n).toNat = i + 1 + n := by omega
 have e8 : i + 1 + n - (i + 1) = n := by omega
 simp -implicitDefEqProofs [x185, h1, e1, e2, e3, e4, e5, e6, e7, e8, exSlice, bounds]
end
end Go.EX


set_option linter.unusedVariables false
set_option linter.unusedSimpArgs false
namespace Go.EX
structure ObjAt (W B : List Nat) (e i n : Nat) : Prop where
 lt : i + 1 + n ≤ e
 top : e ≤ W.length
 bd : W.length ≤ 1048576
 bit : ∃ b, B[i / 64]? = some b ∧ b < 18446744073709551616 ∧ b.testBit (i % 64) = true
 head : ∃ w, W[i]? = some w ∧ w / 256 = n ∧ w < 18446744073709551616
def NoObj (B : List Nat) (e : Nat) (i : Int) : Prop := 0 ≤ i → i < e → ∃ b, B[i.toNat / 64]? = some b ∧ b < 18446744073709551616 ∧ b.testBit (i.toNat % 64) = false
section
variable {code : Nat → Option XFun} {ext : Calls'}
structure Smalls (code : Nat → Option XFun) : Prop where
 c182 : code 182 = some x182
 c183 : code 183 = some x183
 c184 : code 184 = some x184
 c185 : code 185 = some x185
 c186 : code 186 = some x186
theorem is_obj (c : Smalls code) {W B : List Nat} {e i n : Nat} (o : ObjAt W B e i n) : callW code ext 183 [.optr 0 0, int64 i] (hMem W B e) = some (avb true, hMem W B e) := by
 obtain ⟨b, h1, h2, h3⟩ := o.bit
 rw [is_yes c.c183 W B e i b (by have := o.lt; omega) h1 h2 (by have := o.top; have := o.bd; omega), h3]
theorem zg7 (c : Smalls code) {W B : List Nat} {e : Nat} {i : Int} (he : e ≤ 1048576) (o : NoObj B e i) : callW code ext 183 [.optr 0 0, int64 i] (hMem W B e) = some (avb false, hMem W B e) := by
 by_cases h : 0 ≤ i ∧ i < e
 ·obtain ⟨b, h1, h2, h3⟩ := o h.1 h.2
  obtain ⟨k, rfl⟩ : ∃ k : Nat, i = k := ⟨i.toNat, by omega⟩
  rw [is_yes c.c183 W B e k b (by omega) (by simpa using h1) h2 (by omega)]
  rw [Int.toNat_natCast] at h3
  rw [h3]
 ·exact is_no c.c183 W B e i h
theorem zia (c : Smalls code) {W B : List Nat} {e i n : Nat} (o : ObjAt W B e i n) :
  callW code ext 184 [.optr 0 0, int64 i] (hMem W B e) = some (.tup [ownSl W i n, int64 0], hMem W B e) := by
 obtain ⟨w, w1, w2, w3⟩ := o.head
 have h1 := zgb (ext := ext) c.c182 W B e (by have := o.lt; have := o.top; omega)
 have h2 := is_obj (ext := ext) c o
 have h3 := zkg (ext := ext) c.c186 c.c185 W B e i w n w1 w2 w3 (by have := o.lt; have := o.top; omega) o.bd
 rw [zb5 code ext c.c184]
 simp -implicitDefEqProofs [x184, h1, h2, h3]
theorem zh9 (c : Smalls code) {W B : List Nat} {e : Nat} {i : Int} (hW : 1 ≤ W.length) (he : e ≤ 1048576) (o : NoObj B e i) :
  callW code ext 184 [.optr 0 0, int64 i] (hMem W B e) = some (.tup [nilS, int64 1], hMem W B e) := by
 have h1 := zgb (ext := ext) c.c182 W B e hW
 have h2 := zg7 (ext := ext) (W := W) c he o
 rw [zb5 code ext c.c184]
 simp -implicitDefEqProofs [x184, h1, h2]
theorem zmd (c : Smalls code) (h : code 174 = some x174) {W B : List Nat} {e i n : Nat} (o : ObjAt W B e i n) {k v : Nat} (hk : k < n) (hv : W[i + 1 + k]? = some v) :
  callW code ext 174 [.optr 0 0, int64 i, int64 k] (hMem W B e) = some (.tup [uint64 v, int64 0], hMem W B e) := by
 have h1 := zia (ext := ext) c o
 have h2 := zqz hv
 have e1 : ¬ ((k : Int) < 0) := by omega
 have e2 : ¬ ((k : Int) ≥ n) := by omega
 have e3 : (k : Int) < n := by omega
 rw [zb5 code ext h]
 simp -implicitDefEqProofs [x174, h1, h2, e1, e2, e3, hk]
theorem zrk (c : Smalls code) (h : code 178 = some x178) {W B : List Nat} {e i n : Nat} (o : ObjAt W B e i n) {k v : Nat} (hk : k < n) :
  callW code ext 178 [.optr 0 0, int64 i, int64 k, uint64 v] (hMem W B e) = some (int64 0, hMem (W.set (i + 1 + k) v) B e) := by
 have h1 := zia (ext := ext) c o
 have h2 := zq1 W (i + 1 + k) v
 have h3 := zq0 W
 have e1 : ¬ ((k : Int) < 0) := by omega
 have e2 : ¬ ((k : Int) ≥ n) := by omega
 have e3 : (k : Int) < n := by omega
 have e4 : i + 1 + k + 1 ≤ W.length := by have := o.lt; have := o.top; omega
 have e5 : i + 1 + k < W.length := by omega
 rw [zb5 code ext h]
 simp -implicitDefEqProofs [x178, h1, h2, h3, e1, e2, e3, e4, e5, hk]
 simp [setAll, h2]
theorem zpc (c : Smalls code) (h : code 175 = some x175) {W B : List Nat} {e i n : Nat} (o : ObjAt W B e i n) :
  callW code ext 175 [.optr 0 0, int64 i] (hMem W B e) = some (.tup [int64 n, int64 0], hMem W B e) := by
 have h1 := zia (ext := ext) c o
 rw [zb5 code ext h]
 simp -implicitDefEqProofs [x175, h1]
end
end Go.EX


set_option linter.unusedVariables false
set_option linter.unusedSimpArgs false
namespace Go.EX
section
variable {code : Nat → Option XFun} {ext : Calls'}
theorem zcq (n : Nat) : copies n [u64v 0] = urow (List.replicate n 0) := by
 induction n with
 | zero => rfl
 | succ n ih => simp only [copies, ih, urow, List.replicate_succ, List.map_cons, List.singleton_append]
theorem zcr (n : Nat) : copies n [IV.val (Value.int .u64 0)] = urow (List.replicate n 0) := zcq n
theorem new_ok (h : code 567 = some x567) (n : Nat) (h1 : 1 ≤ n) (h2 : n ≤ 1048576) :
  callW code ext 567 [int64 n] [] = some (.tup [.optr 0 0, int64 0], hMem (List.replicate n 0) (List.replicate (n / 64 + 1) 0) 0) := by
 rw [zb5 code ext h]
 obtain ⟨q, r, hq, hr, hr64, e1, e2⟩ := zk3 (i := n) (by omega)
 have e3 : ¬ ((n : Int) < 1) := by omega
 have e4 : ¬ ((n : Int) > 1048576) := by omega
 have e4' : ¬ (1048576 < (n : Int)) := by omega
 have e5 : (0 : Int) ≤ n := by omega
 have e6 : 8 * (n : Int) ≤ 281474976710656 := by omega
 have e7 : (n : Int) ≤ 9223372036854775807 := by omega
 have e8 : IntKind.wrap .i64 ((q : Int) + 1) = (q : Int) + 1 := wrapI64 (by omega) (by omega)
 have f5 : (0 : Int) ≤ (q : Int) + 1 := by omega
 have f6 : 8 * ((q : Int) + 1) ≤ 281474976710656 := by omega
 have f7 : (q : Int) + 1 ≤ 9223372036854775807 := by omega
 have f8 : ((q : Int) + 1).toNat = q + 1 := by omega
 have g1 := zcr n
 have g2 := zcr (q + 1)
 rw [hq]
 simp -implicitDefEqProofs [-intBin, b_add, b_lss, b_gtr, x567, e1, e2, e3, e4, e4', e5, e6, e7, e8, f5, f6, f7, f8, g1, g2]
end
end Go.EX


set_option linter.unusedVariables false
set_option linter.unusedSimpArgs false
namespace Go.EX
section
variable {code : Nat → Option XFun} {ext : Calls'}
theorem zci (n : Nat) : imms ((copies n [Value.int .u64 0]).map fun z => AV.imm (IV.val z)) = some (urow (List.replicate n 0)) := by
 have : (copies n [Value.int .u64 0]).map (fun z => AV.imm (IV.val z)) = (urow (List.replicate n 0)).map AV.imm := by
  induction n with
  | zero => rfl
  | succ n ih =>
   have h : urow (List.replicate (n + 1) 0) = u64v 0 :: urow (List.replicate n 0) := by simp only [urow, List.replicate_succ, List.map_cons]
   rw [h]
   simp only [copies, List.singleton_append, List.map_cons, ih]
   rfl
 rw [this, imms_imm]
theorem zow : ∀ (l W : List Nat) (o : Nat), setAll (urow W) o (urow l) = urow (setAll W o l)
 | [], W, o => rfl
 | x :: l, W, o => by
  show setAll ((urow W).set o (u64v x)) (o + 1) (urow l) = _
  rw [zq1, zow l]; rfl
theorem zgj {n k : Nat} (hn : n ≤ 1048576) (hk : k < 256) : shiftBin .shl .u64 n 8 = some (.int .u64 ((n * 256 : Nat) : Int)) ∧ intBin .or .u64 ((n * 256 : Nat) : Int) k = some (.int .u64 ((n * 256 + k : Nat) : Int)) := by
 constructor
 ·unfold shiftBin
  rw [if_neg (by decide)]
  show some (Value.int IntKind.u64 (IntKind.wrap .u64 ((n : Int) * 2 ^ 8))) = _
  rw [wrapU64 (by omega) (by omega)]
  norm_cast
 ·rw [or_bin (by omega) (by omega)]
  congr 2
  have := Nat.two_pow_add_eq_or_of_lt (b := k) (i := 8) hk n
  rw [Nat.mul_comm] at this
  rw [← this]
theorem za7 (c : Smalls code) (h : code 169 = some x169) {W B : List Nat} {e n k b : Nat} (hk : 3 ≤ k) (hk2 : k ≤ 8) (hn : n + e < W.length) (hbd : W.length ≤ 1048576) (hb : B[e / 64]? = some b) (hb2 : b < 18446744073709551616) :
  callW code ext 169 [.optr 0 0, .imm (.val (.int .u8 k)), int64 n] (hMem W B e) =
   some (.tup [int64 e, int64 0], hMem (setAll (W.set e (n * 256 + k)) (e + 1) (List.replicate n 0)) (B.set (e / 64) (b ||| 2 ^ (e % 64))) (e + n + 1)) := by
 have hg := zgb (ext := ext) c.c182 W B e (by omega)
 obtain ⟨q, r, hq, hr, hr64, e1, e2⟩ := zk3 (i := e) (by omega)
 rw [hq] at hb
 rw [hq, hr]
 obtain ⟨s1, s2⟩ := zgj (n := n) (k := k) (by omega) (by omega)
 have hlast : (n * 256 + k) / 256 = n := by omega
 have hlt : n * 256 + k < 18446744073709551616 := by omega
 have hlen2 : (setAll (W.set e (n * 256 + k)) (e + 1) (List.replicate n 0)).length = W.length := by rw [zot]; simp
 generalize hH : n * 256 + k = H at *
 generalize n * 256 = N8 at *
 have s3 := zo8 hr64
 have hp : (2 : Nat) ^ r < 18446744073709551616 := Nat.pow_lt_pow_right (by decide) hr64
 have s4 := or_bin hb2 hp
 generalize (2 : Nat) ^ r = pw at *
 have s5 := zqz hb
 have s5' := zqy hb
 generalize hbo : b ||| pw = bo at *
 have hqB : q < B.length := (List.getElem?_eq_some_iff.1 hb).1
 have t1 : ¬ ((k : Int) < 3) := by omega
 have t2 : ¬ ((k : Int) > 8) := by omega
 have t2' : ¬ (8 < (k : Int)) := by omega
 have t3 : ¬ ((n : Int) < 0) := by omega
 have t4 : IntKind.wrap .i64 ((W.length : Int) - e) = (W.length : Int) - e := wrapI64 (by omega) (by omega)
 have t5 : ¬ ((n : Int) ≥ (W.length : Int) - e) := by omega
 have t5' : ¬ ((W.length : Int) - e ≤ n) := by omega
 have t5'' : ¬ ((W.length : Int) ≤ n + e) := by omega
 have t6 : IntKind.wrap .u64 (n : Int) = n := wrapU64 (by omega) (by omega)
 have t7 : IntKind.wrap .u64 (k : Int) = k := wrapU64 (by omega) (by omega)
 have t8 : (0 : Int) ≤ e := by omega
 have t9 : (e : Int) < W.length := by omega
 have t9' : e < W.length := by omega
 have t10 : e + 1 ≤ W.length := by omega
 have t11 : q + 1 ≤ B.length := by omega
 have t12 : IntKind.wrap .i64 ((n : Int) + 1) = (n : Int) + 1 := wrapI64 (by omega) (by omega)
 generalize hE : e + n + 1 = E at *
 have t13 : IntKind.wrap .i64 ((e : Int) + ((n : Int) + 1)) = E := by rw [wrapI64 (by omega) (by omega)]; omega
 have u1 := zq1 W e H
 have u2 := zq1 B q bo
 have u3 := zq0 W
 have u4 := zq0 B
 have hown := zkg (ext := ext) c.c186 c.c185 (W.set e H) (B.set q bo) E e H n (by simp [t9']) hlast hlt (by simp; omega) (by simp; omega)
 simp only [hMem, List.length_set, ownSl] at hown
 have v1 := zci n
 have v2 := zow (List.replicate n 0) (W.set e H) (e + 1)
 have v3 : e + 1 + n ≤ W.length := by omega
 have v4 := zq0 (W.set e H)
 have v5 := zq0 (List.replicate n 0)
 rw [List.length_set] at v4
 rw [List.length_replicate] at v5
 rw [zb5 code ext h]
 by_cases hn0 : n = 0
 ·subst hn0
  simp only [Int.natCast_zero, Int.zero_add] at s1 t3 t5 t5' t5'' t6 t12 t13
  have w1 : ¬ ((W.length : Int) - e ≤ 0) := by omega
  have w2 : ¬ ((W.length : Int) ≤ e) := by omega
  have w3 : ¬ (W.length ≤ e) := by omega
  have w4 : IntKind.wrap .u64 0 = 0 := by decide
  have w5 : IntKind.wrap .i64 1 = 1 := by decide
  simp -implicitDefEqProofs [-intBin, -shiftBin, b_add, b_sub, b_lss, b_gtr, b_geq, x169, hg, e1, e2, s1, s2, s3, s4, s5, s5', hqB, t1, t2, t2', t3, t4, t5, t5', t5'', t6, t7, t8, t9, t9', t10, t11, t12, t13, u1, u2, u3, u4, hown, setAll, hlen2, w1, w2, w3, w4, w5]
 ·simp -implicitDefEqProofs [-intBin, -shiftBin, b_add, b_sub, b_lss, b_gtr, b_geq, x169, hg, e1, e2, s1, s2, s3, s4, s5, s5', hqB, t1, t2, t2', t3, t4, t5, t5', t5'', t6, t7, t8, t9, t9', t10, t11, t12, t13, u1, u2, u3, u4, hown, hn0, v1, v2, v3, v4, v5, setAll, hlen2]
end
end Go.EX


set_option linter.unusedVariables false
set_option linter.unusedSimpArgs false
namespace Go.EX
def hd (W : List Nat) (i : Nat) : Nat := (W[i]?).getD 0 / 256
structure HI (W B : List Nat) (e : Nat) : Prop where
 pos : 1 ≤ W.length
 bd : W.length ≤ 1048576
 bl : B.length = W.length / 64 + 1
 top : e ≤ W.length
 wlt : ∀ w ∈ W, w < 18446744073709551616
 blt : ∀ b ∈ B, b < 18446744073709551616
 inn : ∀ i, bitAt B i = true → i + 1 + hd W i ≤ e
 apart : ∀ i j, bitAt B i = true → bitAt B j = true → i < j → i + 1 + hd W i ≤ j
variable {W B : List Nat} {e : Nat}
theorem HI.word (h : HI W B e) {i : Nat} (hi : i ≤ W.length) : ∃ b, B[i / 64]? = some b ∧ b < 18446744073709551616 ∧ bitAt B i = b.testBit (i % 64) := by
 have hlt : i / 64 < B.length := by rw [h.bl]; omega
 refine ⟨B[i / 64], List.getElem?_eq_getElem hlt, h.blt _ (List.getElem_mem _), ?_⟩
 unfold bitAt
 rw [List.getElem?_eq_getElem hlt]; rfl
theorem HI.obj (h : HI W B e) {i : Nat} (hi : bitAt B i = true) : ObjAt W B e i (hd W i) := by
 have h1 := h.inn i hi
 have h2 := h.top
 have hlt : i < W.length := by omega
 refine ⟨h1, h2, h.bd, ?_, W[i], List.getElem?_eq_getElem hlt, ?_, h.wlt _ (List.getElem_mem _)⟩
 ·obtain ⟨b, g1, g2, g3⟩ := h.word (i := i) (by omega)
  exact ⟨b, g1, g2, by rw [← g3]; exact hi⟩
 ·unfold hd
  rw [List.getElem?_eq_getElem hlt]; rfl
theorem HI.none (h : HI W B e) {i : Int} (hi : 0 ≤ i → bitAt B i.toNat = false) : NoObj B e i := by
 intro h0 h1
 have h2 := h.top
 obtain ⟨b, g1, g2, g3⟩ := h.word (i := i.toNat) (by omega)
 exact ⟨b, g1, g2, by rw [← g3]; exact hi h0⟩
end Go.EX


set_option linter.unusedVariables false
set_option linter.unusedSimpArgs false
namespace Go.EX
section
variable {code : Nat → Option XFun} {ext : Calls'}
abbrev i64v (n : Nat) : IV := .val (.int .i64 (n : Int))
def pcells (l : List Nat) : List AV := l.map fun i => .imm (i64v i)
end
end Go.EX


set_option linter.unusedVariables false
set_option linter.unusedSimpArgs false
namespace Go.EX
section
variable {code : Nat → Option XFun} {ext : Calls'}
def PlShape (pre : List Nat) (out : AV) (tail : Mem) : Prop :=
 (pre = [] ∧ out = nilS ∧ tail = []) ∨ (∃ y, pre = [y] ∧ out = .osl 8 0 1 1 none ∧ tail = [.flat [i64v y] false]) ∨ (2 ≤ pre.length ∧ out = .osl 8 0 1 pre.length none ∧ tail = [.rich (pcells pre)])
end
end Go.EX


set_option linter.unusedVariables false
set_option linter.unusedSimpArgs false
namespace Go.EX
section
variable {code : Nat → Option XFun} {ext : Calls'}
def plVal (l : List Nat) (k : Nat) : AV × Mem :=
 match l with
 | [] => (nilS, [])
 | [y] => (.osl k 0 1 1 none, [.flat [i64v y] false])
 | l => (.osl k 0 1 l.length none, [.rich (pcells l)])
theorem PlShape.val {l : List Nat} {out : AV} {tail : Mem} (h : PlShape l out tail) : (out, tail) = plVal l 8 := by
 rcases h with ⟨rfl, rfl, rfl⟩ | ⟨y, rfl, rfl, rfl⟩ | ⟨h2, rfl, rfl⟩
 ·rfl
 ·rfl
 ·match l, h2 with
  | _ :: _ :: _, _ => rfl
end
end Go.EX


set_option linter.unusedVariables false
set_option linter.unusedSimpArgs false
namespace Go.EX
structure Cleared (B : List Nat) (lo hi : Nat) (B' : List Nat) : Prop where
 len : B'.length = B.length
 blt : ∀ b ∈ B', b < 18446744073709551616
 bit : ∀ j, bitAt B' j = (bitAt B j && !(decide (lo ≤ j) && decide (j < hi)))
section
variable {code : Nat → Option XFun} {ext : Calls'}
end
end Go.EX


set_option linter.unusedVariables false
set_option linter.unusedSimpArgs false
namespace Go.EX
def setBit (B : List Nat) (i : Nat) : List Nat := B.set (i / 64) ((B[i / 64]?).getD 0 ||| 2 ^ (i % 64))
theorem zbv {B : List Nat} {i : Nat} (h : i / 64 < B.length) (j : Nat) : bitAt (setBit B i) j = (bitAt B j || decide (j = i)) := by
 unfold bitAt setBit
 rw [List.getElem?_set]
 by_cases hq : i / 64 = j / 64
 ·rw [if_pos hq, if_pos h, ← hq, Option.getD_some, Nat.testBit_or, Nat.testBit_two_pow]
  by_cases hj : j = i
  ·subst hj; simp
  ·have : i % 64 ≠ j % 64 := by omega
   simp [hj, this]
 ·rw [if_neg hq]
  have : j ≠ i := by rintro rfl; exact hq rfl
  simp [this]
theorem zox {B : List Nat} {i : Nat} (h : ∀ b ∈ B, b < 18446744073709551616) : ∀ b ∈ setBit B i, b < 18446744073709551616 := by
 intro c hc
 rcases List.mem_or_eq_of_mem_set hc with h1 | rfl
 ·exact h c h1
 ·refine Nat.or_lt_two_pow (n := 64) ?_ (Nat.pow_lt_pow_right (by decide) (by omega))
  cases hq : B[i / 64]? with
  | none => decide
  | some b => exact h b (List.mem_of_getElem? hq)
section
variable {code : Nat → Option XFun} {ext : Calls'}
end
end Go.EX


set_option linter.unusedVariables false
set_option linter.unusedSimpArgs false
namespace Go.EX
theorem zgh {W : List Nat} {i j v : Nat} (h : i ≠ j) : hd (W.set i v) j = hd W j := by
 unfold hd; rw [List.getElem?_set_ne h]
theorem zgg {W L : List Nat} {t j : Nat} (hl : t + L.length ≤ W.length) : hd (setAll W t L) j = if t ≤ j ∧ j < t + L.length then hd L (j - t) else hd W j := by
 unfold hd
 rw [zor _ _ _ _ hl]
 split <;> rfl
theorem ziw {L W : List Nat} {t : Nat} {x : Nat} (hx : x ∈ setAll W t L) : x ∈ W ∨ x ∈ L := by
 induction L generalizing W t with
 | nil => exact .inl hx
 | cons y L ih =>
  rcases ih hx with h | h
  ·rcases List.mem_or_eq_of_mem_set h with h | rfl
   ·exact .inl h
   ·exact .inr (List.mem_cons_self ..)
  ·exact .inr (List.mem_cons_of_mem _ h)
theorem zbw (k j : Nat) : bitAt (List.replicate k 0) j = false := by
 unfold bitAt
 rw [List.getElem?_replicate]
 split <;> simp
theorem HI.new (n : Nat) (h1 : 1 ≤ n) (h2 : n ≤ 1048576) : HI (List.replicate n 0) (List.replicate (n / 64 + 1) 0) 0 := by
 refine ⟨by simpa using h1, by simpa using h2, by simp, by simp, fun w hw => ?_, fun b hb => ?_, fun i hi => ?_, fun i j hi => ?_⟩
 ·rw [(List.mem_replicate.1 hw).2]; decide
 ·rw [(List.mem_replicate.1 hb).2]; decide
 ·rw [zbw] at hi; cases hi
 ·rw [zbw] at hi; cases hi
variable {W B : List Nat} {e : Nat}
theorem HI.q (h : HI W B e) {i : Nat} (hi : i ≤ W.length) : i / 64 < B.length := by rw [h.bl]; omega
theorem HI.write (h : HI W B e) {i k v : Nat} (hi : bitAt B i = true) (hk : k < hd W i) (hv : v < 18446744073709551616) : HI (W.set (i + 1 + k) v) B e := by
 have hne : ∀ j, bitAt B j = true → i + 1 + k ≠ j := by
  rintro j hj rfl
  have := h.apart i (i + 1 + k) hi hj (by omega)
  omega
 refine ⟨by simpa using h.pos, by simpa using h.bd, by simpa using h.bl, by simpa using h.top, fun w hw => ?_, h.blt, fun j hj => ?_, fun j l hj hl hjl => ?_⟩
 ·rcases List.mem_or_eq_of_mem_set hw with h1 | rfl
  ·exact h.wlt w h1
  ·exact hv
 ·rw [zgh (hne j hj)]; exact h.inn j hj
 ·rw [zgh (hne j hj)]; exact h.apart j l hj hl hjl
theorem HI.alloc (h : HI W B e) {n k : Nat} (hk : k < 256) (hn : n + e < W.length) : HI (setAll (W.set e (n * 256 + k)) (e + 1) (List.replicate n 0)) (setBit B e) (e + n + 1) := by
 have htop := h.top
 have hbd := h.bd
 have hl : e + 1 + (List.replicate n 0).length ≤ (W.set e (n * 256 + k)).length := by simp; omega
 have hhd : ∀ j, j < e → hd (setAll (W.set e (n * 256 + k)) (e + 1) (List.replicate n 0)) j = hd W j := by
  intro j hj
  rw [zgg hl, if_neg (by omega), zgh (by omega)]
 have hhe : hd (setAll (W.set e (n * 256 + k)) (e + 1) (List.replicate n 0)) e = n := by
  rw [zgg hl, if_neg (by omega)]
  unfold hd
  rw [List.getElem?_set_self (by omega)]
  show (n * 256 + k) / 256 = n
  omega
 have hbit := zbv (h.q htop)
 have old : ∀ j, bitAt B j = true → j < e := fun j hj => by have := h.inn j hj; omega
 refine ⟨by rw [zot]; simpa using h.pos, by rw [zot]; simpa using h.bd, by rw [zot]; simpa [setBit] using h.bl, by rw [zot]; simp; omega, fun w hw => ?_, zox h.blt, fun j hj => ?_, fun j l hj hl hjl => ?_⟩
 ·rcases ziw hw with hw | hw
  ·rcases List.mem_or_eq_of_mem_set hw with h1 | rfl
   ·exact h.wlt w h1
   ·omega
  ·rw [(List.mem_replicate.1 hw).2]; decide
 ·rw [hbit] at hj
  rcases Bool.or_eq_true_iff.1 hj with hj | hj
  ·rw [hhd j (old j hj)]; have := h.inn j hj; omega
  ·have : j = e := by simpa using hj
   subst this
   rw [hhe]; omega
 ·rw [hbit] at hj hl
  rcases Bool.or_eq_true_iff.1 hj with hj1 | hj1
  ·rw [hhd j (old j hj1)]
   rcases Bool.or_eq_true_iff.1 hl with hl1 | hl1
   ·exact h.apart j l hj1 hl1 hjl
   ·have : l = e := by simpa using hl1
    rw [this]
    exact h.inn j hj1
  ·have : j = e := by simpa using hj1
   subst this
   rcases Bool.or_eq_true_iff.1 hl with hl1 | hl1
   ·have := old l hl1; omega
   ·have : l = j := by simpa using hl1
    omega
def Clear (W B : List Nat) (a : Nat) : Prop := ∀ j, j < a → bitAt B j = true → j + 1 + hd W j ≤ a
theorem HI.cut (h : HI W B e) {a : Nat} (ha : a ≤ e) (hc : Clear W B a) {B' : List Nat} (hB : Cleared B a e B') : HI W B' a := by
 have hbit : ∀ j, bitAt B' j = true → bitAt B j = true ∧ j < a := by
  intro j hj
  rw [hB.bit, Bool.and_eq_true] at hj
  refine ⟨hj.1, ?_⟩
  have h1 := h.inn j hj.1
  have h2 := hj.2
  simp at h2
  omega
 refine ⟨h.pos, h.bd, by rw [hB.len]; exact h.bl, Nat.le_trans ha h.top, h.wlt, hB.blt, fun j hj => ?_, fun j l hj hl => h.apart j l (hbit j hj).1 (hbit l hl).1⟩
 obtain ⟨h1, h2⟩ := hbit j hj
 exact hc j h2 h1
theorem HI.move (h : HI W B e) {i t : Nat} (hi : bitAt B i = true) (ht : t ≤ i) (hc : Clear W B t) {B' : List Nat} (hB : Cleared B t (i + 1) B') :
  HI (setAll W t ((W.drop i).take (hd W i + 1))) (setBit B' t) e ∧ (∀ j, bitAt (setBit B' t) j = ((bitAt B j && !(decide (t ≤ j) && decide (j < i + 1))) || decide (j = t))) := by
 have htop := h.top
 have hin := h.inn i hi
 have hL : ((W.drop i).take (hd W i + 1)).length = hd W i + 1 := by simp; omega
 have hl : t + ((W.drop i).take (hd W i + 1)).length ≤ W.length := by rw [hL]; omega
 have hhd : ∀ j, (j < t ∨ t + hd W i + 1 ≤ j) → hd (setAll W t ((W.drop i).take (hd W i + 1))) j = hd W j := by
  intro j hj
  rw [zgg hl, if_neg (by rw [hL]; omega)]
 have hht : hd (setAll W t ((W.drop i).take (hd W i + 1))) t = hd W i := by
  rw [zgg hl, if_pos (by rw [hL]; omega), Nat.sub_self]
  unfold hd
  rw [List.getElem?_take, if_pos (by omega), List.getElem?_drop, Nat.add_zero]
 have hbit : ∀ j, bitAt (setBit B' t) j = ((bitAt B j && !(decide (t ≤ j) && decide (j < i + 1))) || decide (j = t)) := by
  intro j
  rw [zbv (by rw [hB.len]; exact h.q (by omega)), hB.bit]
 have cases_ : ∀ j, bitAt (setBit B' t) j = true → (bitAt B j = true ∧ j < t) ∨ j = t ∨ (bitAt B j = true ∧ i + 1 + hd W i ≤ j) := by
  intro j hj
  rw [hbit] at hj
  rcases Bool.or_eq_true_iff.1 hj with hj | hj
  ·rw [Bool.and_eq_true] at hj
   have h2 := hj.2
   simp at h2
   rcases Nat.lt_or_ge j t with g | g
   ·exact .inl ⟨hj.1, g⟩
   ·exact .inr (.inr ⟨hj.1, h.apart i j hi hj.1 (by omega)⟩)
  ·exact .inr (.inl (by simpa using hj))
 refine ⟨⟨by rw [zot]; exact h.pos, by rw [zot]; exact h.bd, by rw [zot]; simpa [setBit, hB.len] using h.bl, by rw [zot]; exact htop, fun w hw => ?_, zox hB.blt, fun j hj => ?_, fun j l hj hl' hjl => ?_⟩, hbit⟩
 ·rcases ziw hw with hw | hw
  ·exact h.wlt w hw
  ·exact h.wlt w (List.mem_of_mem_drop (List.mem_of_mem_take hw))
 ·rcases cases_ j hj with ⟨h1, h2⟩ | rfl | ⟨h1, h2⟩
  ·rw [hhd j (.inl h2)]; exact h.inn j h1
  ·rw [hht]; omega
  ·rw [hhd j (.inr (by omega))]; exact h.inn j h1
 ·rcases cases_ j hj with ⟨h1, h2⟩ | rfl | ⟨h1, h2⟩
  ·rw [hhd j (.inl h2)]
   have := hc j h2 h1
   rcases cases_ l hl' with ⟨g1, g2⟩ | rfl | ⟨g1, g2⟩
   ·exact h.apart j l h1 g1 hjl
   ·exact this
   ·omega
  ·rw [hht]
   rcases cases_ l hl' with ⟨g1, g2⟩ | rfl | ⟨g1, g2⟩
   ·omega
   ·omega
   ·omega
  ·rw [hhd j (.inr (by omega))]
   rcases cases_ l hl' with ⟨g1, g2⟩ | rfl | ⟨g1, g2⟩
   ·omega
   ·omega
   ·exact h.apart j l h1 g1 hjl
end Go.EX


set_option linter.unusedVariables false
set_option linter.unusedSimpArgs false
namespace Go.EX
def packL : List UInt8 → Nat
 | [] => 0
 | b :: r => b.toNat + 256 * packL r
theorem zkj : ∀ l : List UInt8, packL l < 256 ^ l.length
 | [] => by simp [packL]
 | b :: r => by
  have h := zkj r
  have hb : b.toNat < 256 := b.toNat_lt
  simp only [packL, List.length_cons, Nat.pow_succ]
  omega
theorem zki : ∀ (l : List UInt8) (k : Nat), packL l / 256 ^ k % 256 = ((l[k]?).getD 0).toNat
 | [], k => by simp [packL]
 | b :: r, 0 => by
  have hb : b.toNat < 256 := b.toNat_lt
  simp [packL]
 | b :: r, k + 1 => by
  have hb : b.toNat < 256 := b.toNat_lt
  have e : packL (b :: r) / 256 ^ (k + 1) = packL r / 256 ^ k := by
   rw [Nat.pow_succ, Nat.mul_comm, ← Nat.div_div_eq_div_mul, show packL (b :: r) / 256 = packL r by simp only [packL]; omega]
  rw [e, zki r k]
  simp
theorem zkk {l : List UInt8} (h : l.length ≤ 8) : packL l < 18446744073709551616 := by
 have h1 := zkj l
 have h2 : 256 ^ l.length ≤ 256 ^ 8 := Nat.pow_le_pow_right (by decide) h
 have h3 : (256 : Nat) ^ 8 = 18446744073709551616 := by decide
 omega
theorem zkl {l : List UInt8} (h : l.length ≤ 7) : packL l < 72057594037927936 := by
 have h1 := zkj l
 have h2 : 256 ^ l.length ≤ 256 ^ 7 := Nat.pow_le_pow_right (by decide) h
 have h3 : (256 : Nat) ^ 7 = 72057594037927936 := by decide
 omega
def tW (s : List UInt8) (j : Nat) : Nat := packL ((s.drop (8 * j)).take 8)
theorem tW_lt (s : List UInt8) (j : Nat) : tW s j < 18446744073709551616 := zkk (by rw [List.length_take]; omega)
theorem zp0 (s : List UInt8) (j k : Nat) (hk : k < 8) : tW s j / 256 ^ k % 256 = ((s[8 * j + k]?).getD 0).toNat := by
 unfold tW
 rw [zki, List.getElem?_take_of_lt hk, List.getElem?_drop]
def tN (s : List UInt8) : Nat := (s.length + 7) / 8
structure TextAt (W B : List Nat) (e a : Nat) (s : List UInt8) : Prop where
 bit : bitAt B a = true
 top : a + 2 + tN s ≤ e
 head : W[a]? = some ((1 + tN s) * 256 + 3)
 len : W[a + 1]? = some s.length
 word : ∀ j, j < tN s → W[a + 2 + j]? = some (tW s j)
theorem TextAt.more {W B : List Nat} {e a : Nat} {s : List UInt8} (h : TextAt W B e a s) {W' B' : List Nat} {e' : Nat} (he : e ≤ e') (hw : ∀ i, i < e → W'[i]? = W[i]?) (hb : ∀ i, i < e → bitAt B' i = bitAt B i) : TextAt W' B' e' a s := by
 have ht := h.top
 refine ⟨by rw [hb a (by omega)]; exact h.bit, by omega, by rw [hw a (by omega)]; exact h.head, by rw [hw (a + 1) (by omega)]; exact h.len, fun j hj => by rw [hw _ (by omega)]; exact h.word j hj⟩
theorem TextAt.obj {W B : List Nat} {e a : Nat} {s : List UInt8} (h : TextAt W B e a s) (hi : HI W B e) : ObjAt W B e a (1 + tN s) := by
 have := hi.obj h.bit
 have hh : hd W a = 1 + tN s := by
  unfold hd
  rw [h.head]
  simp only [Option.getD_some]
  omega
 rwa [hh] at this
structure Making (W0 B0 : List Nat) (e : Nat) (s : List UInt8) (j : Nat) (W B : List Nat) : Prop where
 hi : HI W B (e + 2 + tN s)
 bit : bitAt B e = true
 head : W[e]? = some ((1 + tN s) * 256 + 3)
 len : W[e + 1]? = some s.length
 word : ∀ i, i < j → W[e + 2 + i]? = some (tW s i)
 old : ∀ i, i < e → W[i]? = W0[i]?
 bits : ∀ i, i < e → bitAt B i = bitAt B0 i
 sz : W.length = W0.length
theorem Making.hd {W0 B0 W B : List Nat} {e j : Nat} {s : List UInt8} (h : Making W0 B0 e s j W B) : hd W e = 1 + tN s := by
 unfold Go.EX.hd
 rw [h.head]
 simp only [Option.getD_some]
 omega
theorem Making.obj {W0 B0 W B : List Nat} {e j : Nat} {s : List UInt8} (h : Making W0 B0 e s j W B) : ObjAt W B (e + 2 + tN s) e (1 + tN s) := by
 have := h.hi.obj h.bit
 rwa [h.hd] at this
theorem Making.text {W0 B0 W B : List Nat} {e : Nat} {s : List UInt8} (h : Making W0 B0 e s (tN s) W B) : TextAt W B (e + 2 + tN s) e s :=
 ⟨h.bit, Nat.le_refl _, h.head, h.len, h.word⟩
theorem Making.step {W0 B0 W B : List Nat} {e j : Nat} {s : List UInt8} (h : Making W0 B0 e s j W B) (hj : j < tN s) : Making W0 B0 e s (j + 1) (W.set (e + 1 + (1 + j)) (tW s j)) B := by
 have hhi := h.hi.write h.bit (k := 1 + j) (v := tW s j) (by rw [h.hd]; omega) (tW_lt s j)
 have htop := h.hi.top
 refine ⟨hhi, h.bit, ?_, ?_, fun i hi => ?_, fun i hi => ?_, h.bits, by rw [List.length_set]; exact h.sz⟩
 ·rw [List.getElem?_set_ne (by omega)]; exact h.head
 ·rw [List.getElem?_set_ne (by omega)]; exact h.len
 ·by_cases hij : i = j
  ·subst hij
   rw [show e + 1 + (1 + i) = e + 2 + i by omega, List.getElem?_set_self (by omega)]
  ·rw [List.getElem?_set_ne (by omega)]; exact h.word i (by omega)
 ·rw [List.getElem?_set_ne (by omega)]; exact h.old i hi
theorem Making.start {W B : List Nat} {e : Nat} (hi : HI W B e) (s : List UInt8) (hn : 1 + tN s + e < W.length) (hs : s.length < 18446744073709551616) :
  Making W B e s 0 ((setAll (W.set e ((1 + tN s) * 256 + 3)) (e + 1) (List.replicate (1 + tN s) 0)).set (e + 1 + 0) s.length) (setBit B e) := by
 have h1 := hi.alloc (n := 1 + tN s) (k := 3) (by decide) hn
 have hbl := hi.bl
 have hbit : e / 64 < B.length := by omega
 have hb : ∀ j, bitAt (setBit B e) j = (bitAt B j || decide (j = e)) := zbv hbit
 have hbe : bitAt (setBit B e) e = true := by rw [hb]; simp
 have hlen : (setAll (W.set e ((1 + tN s) * 256 + 3)) (e + 1) (List.replicate (1 + tN s) 0)).length = W.length := by rw [zot, List.length_set]
 have hget : ∀ i, i ≤ e → (setAll (W.set e ((1 + tN s) * 256 + 3)) (e + 1) (List.replicate (1 + tN s) 0))[i]? = (W.set e ((1 + tN s) * 256 + 3))[i]? := by
  intro i hle
  rw [zos, if_neg (by omega)]
 have hhead : (setAll (W.set e ((1 + tN s) * 256 + 3)) (e + 1) (List.replicate (1 + tN s) 0))[e]? = some ((1 + tN s) * 256 + 3) := by
  rw [hget e (Nat.le_refl _), List.getElem?_set_self (by omega)]
 have hhd : Go.EX.hd (setAll (W.set e ((1 + tN s) * 256 + 3)) (e + 1) (List.replicate (1 + tN s) 0)) e = 1 + tN s := by
  unfold Go.EX.hd
  rw [hhead]
  simp only [Option.getD_some]
  omega
 have h2 := h1.write hbe (k := 0) (v := s.length) (by rw [hhd]; omega) hs
 rw [show e + (1 + tN s) + 1 = e + 2 + tN s by omega] at h2
 refine ⟨h2, hbe, ?_, ?_, fun i hi => absurd hi (by omega), fun i hlt => ?_, fun i hlt => ?_, by rw [List.length_set]; exact hlen⟩
 ·rw [List.getElem?_set_ne (by omega)]; exact hhead
 ·rw [Nat.add_zero, List.getElem?_set_self (by omega)]
 ·rw [List.getElem?_set_ne (by omega), hget i (by omega), List.getElem?_set_ne (by omega)]
 ·rw [hb]
  have : i ≠ e := by omega
  simp [this]
def padL (s : List UInt8) : List UInt8 := s ++ List.replicate 7 0
def readL (s : List UInt8) (j : Nat) : List UInt8 := (padL s).take j ++ List.replicate (s.length + 7 - j) 0
theorem zkp (s : List UInt8) : (padL s).length = s.length + 7 := by simp [padL]
theorem zma (s : List UInt8) (j : Nat) (h : j ≤ s.length + 7) : (readL s j).length = s.length + 7 := by
 simp only [readL, List.length_append, List.length_take, zkp, List.length_replicate]
 omega
theorem zko (s : List UInt8) {j : Nat} (h : j < s.length + 7) : (padL s)[j]? = some ((s[j]?).getD 0) := by
 unfold padL
 by_cases hj : j < s.length
 ·rw [List.getElem?_append_left hj, List.getElem?_eq_getElem hj]; rfl
 ·rw [List.getElem?_append_right (by omega), List.getElem?_replicate, if_pos (by omega), List.getElem?_eq_none (by omega : s.length ≤ j)]; rfl
theorem zmb (s : List UInt8) {j : Nat} (h : j < s.length + 7) : (readL s j).set j ((s[j]?).getD 0) = readL s (j + 1) := by
 have hp := zko s h
 have hl := zkp s
 have hlt : j < (padL s).length := by omega
 have hx : (padL s)[j] = (s[j]?).getD 0 := by
  rw [List.getElem?_eq_getElem hlt] at hp
  exact Option.some.inj hp
 have ht : ((padL s).take j).length = j := by rw [List.length_take]; omega
 unfold readL
 rw [List.set_append_right _ _ (by omega), ht, Nat.sub_self]
 rw [show s.length + 7 - j = (s.length + 7 - (j + 1)) + 1 by omega, List.replicate_succ, List.set_cons_zero, List.take_add_one, List.getElem?_eq_getElem hlt, hx]
 simp
theorem zmc (s : List UInt8) : readL s 0 = List.replicate (s.length + 7) 0 := by simp [readL]
theorem zl9 (s : List UInt8) {j : Nat} (h : s.length ≤ j) : (readL s j).take s.length = s := by
 unfold readL
 rw [List.take_append_of_le_length (by rw [List.length_take, zkp]; omega), List.take_take, Nat.min_eq_left h]
 unfold padL
 rw [List.take_append_of_le_length (Nat.le_refl _), List.take_length]
end Go.EX


set_option linter.unusedVariables false
set_option linter.unusedSimpArgs false
namespace Go.EX
structure TextCode (code : Nat → Option XFun) : Prop where
 small : Smalls code
 c169 : code 169 = some x169
 c171 : code 171 = some x171
 c174 : code 174 = some x174
 c175 : code 175 = some x175
 c176 : code 176 = some x176
 c177 : code 177 = some x177
 c178 : code 178 = some x178
 c276 : code 276 = some x276
 c277 : code 277 = some x277
 c281 : code 281 = some x281
 c282 : code 282 = some x282
 c286 : code 286 = some x286
 c436 : code 436 = some x436
 c437 : code 437 = some x437
 c567 : code 567 = some x567
 c592 : code 592 = some x592
 c594 : code 594 = some x594
 c599 : code 599 = some x599
 c603 : code 603 = some x603
 c605 : code 605 = some x605
 c610 : code 610 = some x610
 c611 : code 611 = some x611
 c613 : code 613 = some x613
 c614 : code 614 = some x614
 c615 : code 615 = some x615
 c616 : code 616 = some x616
 c618 : code 618 = some x618
 c752 : code 752 = some x752
 c762 : code 762 = some x762
abbrev uint8 (k : Int) : AV := .imm (.val (.int .u8 k))
abbrev objV (a k : Int) : AV := .agg [.optr 0 0, int64 a, uint8 k]
abbrev valV (k n : Int) : AV := .agg [uint8 k, int64 n]
section
variable {code : Nat → Option XFun} {ext : Calls'}
theorem zrf (c : TextCode code) {W B : List Nat} {e a n i v : Nat} (o : ObjAt W B e a n) (hi : i < n) (hv : W[a + 1 + i]? = some v) (k : Int) :
  callW code ext 286 [objV a k, int64 i] (hMem W B e) = some (uint64 v, hMem W B e) := by
 have h1 := zmd (ext := ext) c.small c.c174 o hi hv
 rw [zb5 code ext c.c286]
 simp -implicitDefEqProofs [x286, h1]
theorem zj9 (c : TextCode code) {W B : List Nat} {e a n : Nat} (o : ObjAt W B e a n) (k : Int) :
  callW code ext 281 [objV a k] (hMem W B e) = some (int64 n, hMem W B e) := by
 have h1 := zpc (ext := ext) c.small c.c175 o
 rw [zb5 code ext c.c281]
 simp -implicitDefEqProofs [x281, h1]
theorem zhm {w : Nat} (hw : w < 18446744073709551616) : ∃ g : Nat, intBin .and .u64 w 255 = some (.int .u64 g) ∧ IntKind.wrap .u8 (g : Int) = ((w % 256 : Nat) : Int) := by
 refine ⟨w &&& 255, za8 hw (by decide), ?_⟩
 have : w &&& 255 = w % 256 := Nat.and_two_pow_sub_one_eq_mod w 8
 rw [this, wrapU8 (by omega) (by omega)]
theorem zho (c : TextCode code) {W B : List Nat} {e a n w : Nat} (o : ObjAt W B e a n) (hw : W[a]? = some w) :
  callW code ext 171 [.optr 0 0, int64 a] (hMem W B e) = some (.tup [uint8 (w % 256 : Nat), int64 0], hMem W B e) := by
 have h1 := zia (ext := ext) c.small o
 obtain ⟨w', w1, _, w3⟩ := o.head
 have : w' = w := Option.some.inj (w1.symm.trans hw)
 subst this
 have h2 := zqz hw
 obtain ⟨g, g1, g2⟩ := zhm w3
 have e1 : (a : Int) < W.length := by have := o.lt; have := o.top; omega
 have e2 : a < W.length := by omega
 rw [zb5 code ext c.c171]
 simp -implicitDefEqProofs [-intBin, b_neq, x171, h1, h2, e1, e2, g1, g2]
theorem zhn (c : TextCode code) {W B : List Nat} {e : Nat} {i : Int} (hW : 1 ≤ W.length) (he : e ≤ 1048576) (o : NoObj B e i) :
  callW code ext 171 [.optr 0 0, int64 i] (hMem W B e) = some (.tup [uint8 0, int64 1], hMem W B e) := by
 have h1 := zh9 (ext := ext) c.small hW he o
 rw [zb5 code ext c.c171]
 simp -implicitDefEqProofs [x171, h1]
end
end Go.EX


set_option linter.unusedVariables false
set_option linter.unusedSimpArgs false
namespace Go.EX
def bsO (l : List UInt8) : ByteArray := ⟨l.toArray⟩
@[simp] theorem bsO_size (l : List UInt8) : (bsO l).size = l.length := rfl
theorem zb0 (l : List UInt8) (i : Nat) : (bsO l)[i]? = l[i]? := by
 by_cases h : i < l.length
 ·rw [List.getElem?_eq_getElem h, getElem?_pos (bsO l) i (by rw [bsO_size]; exact h)]
  rfl
 ·rw [List.getElem?_eq_none (by omega), getElem?_neg (bsO l) i (by rw [bsO_size]; exact h)]
theorem zbz (a b : List UInt8) : bsO a ++ bsO b = bsO (a ++ b) := by
 apply ByteArray.ext
 rw [ByteArray.data_append]
 simp [bsO]
abbrev strO (l : List UInt8) : AV := .imm (.val (.string (bsO l)))
def rowO (l : List UInt8) : List IV := l.map fun c => .val (.int .u8 c.toNat)
theorem znf (l : List UInt8) : (rowO l).length = l.length := by simp [rowO]
theorem znh (l : List UInt8) (i : Nat) (c : UInt8) : (rowO l).set i (.val (.int .u8 c.toNat)) = rowO (l.set i c) := by simp [rowO, List.map_set]
theorem zng (n : Nat) : List.replicate n (IV.val (.int .u8 0)) = rowO (List.replicate n 0) := by simp [rowO]
theorem zqo (l : List UInt8) : u8s (rowO l) = some (l.map fun c => (c.toNat : Int)) := by
 induction l with
 | nil => rfl
 | cons c l ih =>
  have : rowO (c :: l) = .val (.int .u8 c.toNat) :: rowO l := rfl
  rw [this]
  simp [u8s, ih]
theorem pushO (l : List UInt8) : pushAll (l.map fun c => (c.toNat : Int)) = bsO l := by
 have : ∀ (l : List UInt8) (r : ByteArray), (l.map fun c => (c.toNat : Int)).foldl (fun r n => r.push (UInt8.ofNat n.toNat)) r = r ++ bsO l := by
  intro l
  induction l with
  | nil => intro r; apply ByteArray.ext; simp [ByteArray.data_append, bsO]
  | cons c l ih =>
   intro r
   simp only [List.map_cons, List.foldl_cons, Int.toNat_natCast, UInt8.ofNat_toNat]
   rw [ih]
   apply ByteArray.ext
   simp [ByteArray.data_append, bsO, ByteArray.push]
 unfold pushAll
 rw [this l]
 apply ByteArray.ext
 simp [ByteArray.data_append]
theorem zps (l : List UInt8) (m : Mem) (id n k : Nat) (cap : Option Nat) (h : m[id]? = some (.flat (rowO l) false)) (hn : n ≤ l.length) : strOfV m (.osl id 0 1 n cap) = some (bsO (l.take n)) := by
 have hc : cut (rowO l) 0 n = some (rowO (l.take n)) := by
  refine cut_mk ?_ ?_
  ·simp [rowO, List.map_take]
  ·rw [znf, List.length_take]; omega
 simp only [strOfV, elems, h, Nat.mul_one, hc, Option.map_some, zqo, pushO]
abbrev kMem (W B : List Nat) (e : Nat) (o : AObj) : Mem := [.rich [.osl 2 0 1 W.length (some W.length), .osl 3 0 1 B.length (some B.length), int64 e], o, .flat (urow W) false, .flat (urow B) false]
section
variable {code : Nat → Option XFun} {ext : Calls'}
theorem zjr (c : TextCode code) (W B : List Nat) (e : Nat) (hW : 1 ≤ W.length) : callW code ext 611 [.optr 0 0] (hMem W B e) = some (avb false, hMem W B e) := by
 have h1 := zrg (ext := ext) c.c177 W B e
 have e1 : ¬ (W.length : Int) = 0 := by omega
 have e2 : ¬ W = [] := fun h => by rw [h] at hW; simp at hW
 rw [zb5 code ext c.c611]
 simp -implicitDefEqProofs [x611, h1, e1, e2]
theorem zhv (c : TextCode code) {W B : List Nat} {e a n w : Nat} (o : ObjAt W B e a n) (hw : W[a]? = some w) (hk : w % 256 < 8) :
  callW code ext 613 [.optr 0 0, valV (w % 256 : Nat) a] (hMem W B e) = some (.tup [objV a (w % 256 : Nat), avb true], hMem W B e) := by
 have h1 := zho (ext := ext) c o hw
 generalize hq : w % 256 = q at *
 have e1 : (q : Int) < 8 := by omega
 rw [zb5 code ext c.c613]
 simp -implicitDefEqProofs [x613, h1, e1]
theorem TextAt.kind {W B : List Nat} {e a : Nat} {s : List UInt8} (h : TextAt W B e a s) : ((1 + tN s) * 256 + 3) % 256 = 3 := by omega
theorem zhw (c : TextCode code) {W B : List Nat} {e a : Nat} {s : List UInt8} (hi : HI W B e) (h : TextAt W B e a s) :
  callW code ext 613 [.optr 0 0, valV 3 a] (hMem W B e) = some (.tup [objV a 3, avb true], hMem W B e) := by
 have := zhv (ext := ext) c (h.obj hi) h.head (by rw [h.kind]; decide)
 rw [h.kind] at this
 exact this
theorem ziu (c : TextCode code) {W B : List Nat} {e a : Nat} {s : List UInt8} (hi : HI W B e) (h : TextAt W B e a s) (hs : s.length ≤ 4096) :
  callW code ext 277 [objV a 3] (hMem W B e) = some (avb true, hMem W B e) := by
 have o := h.obj hi
 have h1 := zj9 (ext := ext) c o 3
 have h2 : callW code ext 286 [objV a 3, int64 0] (hMem W B e) = some (uint64 s.length, hMem W B e) := zrf (ext := ext) c o (i := 0) (by omega) (by simpa using h.len) 3
 have e1 : (s.length : Int) ≤ 4096 := by omega
 have e2 : IntKind.wrap .i64 (s.length : Int) = s.length := wrapI64 (by omega) (by omega)
 obtain ⟨L7, hL7⟩ : ∃ L7, L7 = s.length + 7 := ⟨_, rfl⟩
 have e3 : IntKind.wrap .i64 ((s.length : Int) + 7) = (L7 : Int) := by rw [wrapI64 (by omega) (by omega)]; omega
 have e4 : ((L7 : Int).tdiv 8) = tN s := by
  rw [Int.tdiv_eq_ediv_of_nonneg (by omega)]; unfold tN; omega
 have e4' : ((L7 : Int) / 8) = tN s := by unfold tN; omega
 have hN : tN s ≤ 520 := by unfold tN; omega
 have e5 : IntKind.wrap .i64 (tN s : Int) = tN s := wrapI64 (by omega) (by omega)
 have e6 : IntKind.wrap .i64 (1 + (tN s : Int)) = ((1 + tN s : Nat) : Int) := by rw [wrapI64 (by omega) (by omega)]; omega
 have e7 : (0 : Int) < ((1 + tN s : Nat) : Int) := by omega
 have e7' : 0 < 1 + tN s := by omega
 have e1' : s.length ≤ 4096 := hs
 rw [zb5 code ext c.c277]
 generalize tN s = N at *
 generalize s.length = L at *
 generalize 1 + N = M at *
 simp -implicitDefEqProofs [-intBin, b_eql, b_gtr, b_leq, b_add, show ∀ x : Int, intBin .quo .i64 x 8 = some (.int .i64 (IntKind.wrap .i64 (x.tdiv 8))) from fun x => rfl, x277, h1, h2, e1, e2, e3, e4, e4', e5, e6, e7, e7', e1']
theorem zcl (c : TextCode code) (k : Int) (ks : List IV) (n : Nat) (hn : n = ks.length + 1) : callW code ext 752 [.osl 0 0 1 n (some n), uint8 k] [.flat (.val (.int .u8 k) :: ks) false] = some (avb true, [.flat (.val (.int .u8 k) :: ks) false]) := by
 have h1 : callW code ext 762 [.osl 0 0 1 n (some n), uint8 k] [.flat (.val (.int .u8 k) :: ks) false] = some (int64 0, [.flat (.val (.int .u8 k) :: ks) false]) := by
  have hl : den code ext (.loop [0, 1, 7, 8] x762L1) ⟨1, [(0, .osl 0 0 1 n (some n)), (1, uint8 k), (7, int64 n), (8, int64 0)], [.flat (.val (.int .u8 k) :: ks) false]⟩ =
    some (.ret, ⟨1, [(4, int64 0)], [.flat (.val (.int .u8 k) :: ks) false]⟩) := by
   have e1 : (0 : Int) < n := by omega
   have e2 : 0 < n := by omega
   rw [zc5]
   simp -implicitDefEqProofs [x762L1, e1, e2]
  rw [zb5 code ext c.c762]
  simp -implicitDefEqProofs [x762, hl]
 rw [zb5 code ext c.c752]
 simp -implicitDefEqProofs [x752, h1]
theorem zfb (c : TextCode code) {W B : List Nat} {e a : Nat} {s : List UInt8} (hi : HI W B e) (h : TextAt W B e a s) (hs : s.length ≤ 4096) (ks : List IV) (n : Nat) (hn : n = ks.length + 1) :
  callW code ext 610 [.optr 0 0, valV 3 a, .osl 1 0 1 n (some n)] (kMem W B e (.flat (.val (.int .u8 3) :: ks) false)) = some (.tup [objV a 3, int64 0], kMem W B e (.flat (.val (.int .u8 3) :: ks) false)) := by
 have hW : 1 ≤ W.length := hi.pos
 have h1 := zjr (ext := ext) c W B e hW
 have h2 := zcl (ext := ext) c 3 ks n hn
 have h3 := zhw (ext := ext) c hi h
 have h4 := ziu (ext := ext) c hi h hs
 rw [zb5 code ext c.c610]
 simp -implicitDefEqProofs [x610, h1, h2, h3, h4]
end
end Go.EX


set_option linter.unusedVariables false
set_option linter.unusedSimpArgs false
namespace Go.EX
abbrev tMem (W B : List Nat) (e : Nat) (a : Int) (row : List IV) : Mem := [.rich [.osl 1 0 1 W.length (some W.length), .osl 2 0 1 B.length (some B.length), int64 e], .flat (urow W) false, .flat (urow B) false, .rich [.optr 0 0, int64 a, uint8 3], .flat row false]
abbrev txEnv (n n7 j i w k : Nat) : Env := [(1, .optr 3 0), (3, int64 n), (4, .osl 4 0 1 j (some n7)), (5, int64 i), (6, uint64 w), (7, int64 k)]
abbrev txEnv2 (n n7 j i : Nat) : Env := [(1, .optr 3 0), (3, int64 n), (4, .osl 4 0 1 j (some n7)), (5, int64 i)]
theorem tW_shr (s : List UInt8) (q k : Nat) (hk : k < 8) : ∃ v : Nat, shiftBin .shr .u64 (tW s q) ((8 * k : Nat) : Int) = some (.int .u64 v) ∧ IntKind.wrap .u8 (v : Int) = (((s[8 * q + k]?).getD 0).toNat : Int) := by
 refine ⟨tW s q / 2 ^ (8 * k), zpa _ _ (by omega), ?_⟩
 have h := zp0 s q k hk
 have h2 : 2 ^ (8 * k) = 256 ^ k := by rw [Nat.pow_mul]
 rw [h2, ← h]
 generalize tW s q / 256 ^ k = v
 simp only [IntKind.wrap, IntKind.signed, IntKind.bits]
 simp
section
variable {code : Nat → Option XFun} {ext : Calls'}
theorem tx_in (W B : List Nat) (e : Nat) (a : Int) (s : List UInt8) (hs : s.length ≤ 4096) (n7 : Nat) (hn : n7 = s.length + 7) (i q : Nat) (hq : 8 * q < s.length) : ∀ (m : Nat) (st : St), (∃ k, m + k = 8 ∧ st.tidy [1, 3, 4, 5, 6, 7] = ⟨3, txEnv s.length n7 (8 * q + k) i (tW s q) k, tMem W B e a (rowO (readL s (8 * q + k)))⟩) →
  ∃ x s', den code ext (.loop [1, 3, 4, 5, 6, 7] x282L1) st = some (x, s') ∧ x ≠ .normal ∧ (x = .exit 2 ∧ s' = ⟨3, txEnv s.length n7 (8 * q + 8) i (tW s q) 8 ++ [(24, avb false)], tMem W B e a (rowO (readL s (8 * q + 8)))⟩) := by
 refine zic _ _ ?_
 rintro m st ⟨k, hk, hst⟩
 rw [hst]
 by_cases h8 : k = 8
 ·subst h8
  refine ⟨.exit 2, ⟨3, txEnv s.length n7 (8 * q + 8) i (tW s q) 8 ++ [(24, avb false)], tMem W B e a (rowO (readL s (8 * q + 8)))⟩, ?_, .inr ⟨by simp, rfl, rfl⟩⟩
  simp -implicitDefEqProofs [x282L1]
 ·have hk8 : k < 8 := by omega
  obtain ⟨v, h1, h2⟩ := tW_shr s q k hk8
  obtain ⟨j, hj⟩ : ∃ j, j = 8 * q + k := ⟨_, rfl⟩
  have hjn : j < s.length + 7 := by omega
  have hstep := zmb s hjn
  have hlen := zma s j (by omega)
  have hset := znh (readL s j) j ((s[j]?).getD 0)
  rw [hstep] at hset
  have hrl := znf (readL s j)
  rw [hlen, ← hn] at hrl
  rw [← hj] at h2
  generalize hc : (s[j]?).getD 0 = ch at *
  have hj1 : 8 * q + (k + 1) = j + 1 := by omega
  rw [← hj]
  refine ⟨.normal, ⟨3, txEnv s.length n7 (j + 1) i (tW s q) (k + 1), tMem W B e a (rowO (readL s (j + 1))) ++ [.flat [.val (.int .u8 ch.toNat)] false]⟩, ?_, .inl ⟨rfl, 8 - (k + 1), by omega, k + 1, by omega, ?_⟩⟩
  ·have e1 : (k : Int) < 8 := by omega
   have e2 : IntKind.wrap .i64 (8 * (k : Int)) = ((8 * k : Nat) : Int) := by rw [wrapI64 (by omega) (by omega)]; omega
   have e3 : IntKind.wrap .i64 ((k : Int) + 1) = ((k + 1 : Nat) : Int) := by rw [wrapI64 (by omega) (by omega)]; omega
   have e4 : j + 1 ≤ n7 := by omega
   generalize 8 * k = k8 at *
   generalize hk1 : k + 1 = k1 at *
   generalize hj2 : j + 1 = j1 at *
   generalize tW s q = w at *
   simp -implicitDefEqProofs [-intBin, -shiftBin, b_lss, b_add, show ∀ x : Int, intBin .mul .i64 8 x = some (.int .i64 (IntKind.wrap .i64 (8 * x))) from fun x => rfl, x282L1, e1, e2, e3, e4, h1, h2, exAppendX, exAppend, elems, hrl, setAll, hset, hj2]
  ·rw [hj1]
   simp -implicitDefEqProofs []
theorem tx_out (c : TextCode code) {W B : List Nat} {e a : Nat} {s : List UInt8} (hi : HI W B e) (h : TextAt W B e a s) (hs : s.length ≤ 4096) (n7 : Nat) (hn : n7 = s.length + 7) : ∀ (m : Nat) (st : St), (∃ q i, i = q + 1 ∧ s.length + 8 ≤ m + 8 * q + 8 ∧ 8 * q ≤ s.length + 7 ∧ st.tidy [1, 3, 4, 5] = ⟨3, txEnv2 s.length n7 (8 * q) i, tMem W B e a (rowO (readL s (8 * q)))⟩) →
  ∃ x s', den code ext (.loop [1, 3, 4, 5] x282L2) st = some (x, s') ∧ x ≠ .normal ∧ (x = .exit 0 ∧ ∃ j i, s.length ≤ j ∧ j ≤ n7 ∧ s' = ⟨3, txEnv2 s.length n7 j i ++ [(17, avb false)], tMem W B e a (rowO (readL s j))⟩) := by
 refine zic _ _ ?_
 rintro m st ⟨q, i, hiq, hm, hq7, hst⟩
 rw [hst]
 by_cases hq : 8 * q < s.length
 ·have o := h.obj hi
  have hw : callW code ext 286 [objV a 3, int64 i] (hMem W B e) = some (uint64 (tW s q), hMem W B e) :=
   zrf (ext := ext) c o (i := i) (by unfold tN; omega) (by rw [← h.word q (by unfold tN; omega)]; congr 1; omega) 3
  obtain ⟨x, s', h1, _, rfl, rfl⟩ := tx_in (code := code) (ext := ext) W B e a s hs n7 hn i q hq 8 ⟨3, txEnv s.length n7 (8 * q) i (tW s q) 0, tMem W B e a (rowO (readL s (8 * q)))⟩ ⟨0, rfl, by rw [Nat.add_zero]; simp -implicitDefEqProofs []⟩
  have e3 : IntKind.wrap .i64 ((i : Int) + 1) = ((i + 1 : Nat) : Int) := by rw [wrapI64 (by omega) (by omega)]; omega
  have hi1 : i + 1 = (q + 1) + 1 := by omega
  refine ⟨.normal, ⟨3, txEnv2 s.length n7 (8 * (q + 1)) (i + 1), tMem W B e a (rowO (readL s (8 * (q + 1))))⟩, ?_, .inl ⟨rfl, m - 8, by omega, q + 1, i + 1, hi1, by omega, by omega, by simp -implicitDefEqProofs []⟩⟩
  have e1 : ((8 * q : Nat) : Int) < s.length := by omega
  have e8 : 8 * (q + 1) = 8 * q + 8 := by omega
  rw [e8]
  have e1' := hq
  generalize 8 * q + 8 = q8 at *
  generalize 8 * q = q0 at *
  generalize i + 1 = i1 at *
  generalize tW s q = w at *
  simp only [txEnv, Int.natCast_zero, List.cons_append, List.nil_append] at h1
  simp -implicitDefEqProofs [-intBin, b_lss, b_add, x282L2, hw, e1, e1', e3, h1]
 ·have e1 : ¬ ((8 * q : Nat) : Int) < s.length := by omega
  refine ⟨.exit 0, ⟨3, txEnv2 s.length n7 (8 * q) i ++ [(17, avb false)], tMem W B e a (rowO (readL s (8 * q)))⟩, ?_, .inr ⟨by simp, rfl, 8 * q, i, by omega, by omega, rfl⟩⟩
  generalize 8 * q = q0 at *
  simp -implicitDefEqProofs [x282L2, e1, hq]
theorem zp6 (c : TextCode code) {W B : List Nat} {e a : Nat} {s : List UInt8} (hi : HI W B e) (h : TextAt W B e a s) (hs : s.length ≤ 4096) :
  callW code ext 282 [objV a 3] (hMem W B e) = some (strO s, hMem W B e) := by
 have o := h.obj hi
 have hw : callW code ext 286 [objV a 3, int64 0] (hMem W B e) = some (uint64 s.length, hMem W B e) := zrf (ext := ext) c o (i := 0) (by omega) (by simpa using h.len) 3
 obtain ⟨n7, hn⟩ : ∃ n7, n7 = s.length + 7 := ⟨_, rfl⟩
 have e2 : IntKind.wrap .i64 (s.length : Int) = s.length := wrapI64 (by omega) (by omega)
 have e3 : IntKind.wrap .i64 ((s.length : Int) + 7) = (n7 : Int) := by rw [wrapI64 (by omega) (by omega)]; omega
 have e4 : n7 ≤ 281474976710656 := by omega
 have e5 : (n7 : Int) ≤ 281474976710656 := by omega
 have e6 : (n7 : Int) ≤ 9223372036854775807 := by omega
 have e7 : n7 ≤ 9223372036854775807 := by omega
 have hz : copies n7 [IV.val (.int .u8 0)] = rowO (readL s 0) := by
  rw [zmc, ← zng, hn]
  generalize s.length + 7 = n
  induction n with
  | zero => rfl
  | succ n ih => simp only [copies, ih, List.replicate_succ]; rfl
 obtain ⟨x, s', h1, _, rfl, j, i, hj1, hj2, rfl⟩ := tx_out (code := code) (ext := ext) c hi h hs n7 hn (s.length + 8) ⟨3, txEnv2 s.length n7 0 1, tMem W B e a (rowO (readL s 0))⟩ ⟨0, 1, rfl, by omega, by omega, by simp -implicitDefEqProofs []⟩
 have hso : ∀ m : Mem, m[4]? = some (.flat (rowO (readL s j)) false) → ∀ cp, strOfV m (.osl 4 0 1 s.length cp) = some (bsO s) := fun m hm cp => by
  have := zps (readL s j) m 4 s.length 1 cp hm (by rw [zma s j (by omega)]; omega)
  rw [zl9 s hj1] at this
  exact this
 have hsn : (s.length : Int) ≤ n7 := by omega
 have hsn' : s.length ≤ n7 := by omega
 simp only [txEnv2, Int.natCast_zero, Int.natCast_one, List.cons_append, List.nil_append] at h1
 rw [zb5 code ext c.c282]
 simp -implicitDefEqProofs [x282, hw, e2, e3, e4, e5, e6, e7, hz, h1, exSlice, hsn, hsn', hso]
end
end Go.EX


set_option linter.unusedVariables false
set_option linter.unusedSimpArgs false
namespace Go.EX
section
variable {code : Nat → Option XFun} {ext : Calls'}
theorem zak (c : TextCode code) {W B : List Nat} {e a : Nat} {s : List UInt8} (hi : HI W B e) (h : TextAt W B e a s) (hs : s.length ≤ 4096) :
  callW code ext 605 [.optr 0 0, valV 3 a] (hMem W B e) = some (.tup [strO s, int64 0], hMem W B e) := by
 have h1 := zfb (ext := ext) c hi h hs [] 1 rfl
 have h2 := zp6 (ext := ext) c hi h hs
 rw [zb5 code ext c.c605]
 simp -implicitDefEqProofs [x605, h1, h2]
abbrev keyT (s : List UInt8) : AV := .agg [uint8 3, int64 0, strO (61 :: s)]
theorem zjb (c : TextCode code) {W B : List Nat} {e a : Nat} {s : List UInt8} (hi : HI W B e) (h : TextAt W B e a s) (hs : s.length ≤ 4096) :
  callW code ext 616 [.optr 0 0, valV 3 a] (hMem W B e) = some (keyT s, hMem W B e) := by
 have h1 := zak (ext := ext) c hi h hs
 have h2 : (⟨#[61]⟩ : ByteArray) ++ bsO s = bsO (61 :: s) := zbz [61] s
 have e0 : (⟨#[61]⟩ : ByteArray).size = 1 := rfl
 have e2 : 1 + s.length ≤ 9223372036854775807 := by omega
 rw [zb5 code ext c.c616]
 simp -implicitDefEqProofs [x616, h1, h2, e0, e2]
end
end Go.EX


set_option linter.unusedVariables false
set_option linter.unusedSimpArgs false
namespace Go.EX
section
variable {code : Nat → Option XFun} {ext : Calls'}
theorem za5 (c : TextCode code) {W B : List Nat} {e : Nat} (hi : HI W B e) {k n : Nat} (hk : 3 ≤ k) (hk2 : k ≤ 8) (hn : n + e < W.length) :
  callW code ext 169 [.optr 0 0, .imm (.val (.int .u8 k)), int64 n] (hMem W B e) = some (.tup [int64 e, int64 0], hMem (setAll (W.set e (n * 256 + k)) (e + 1) (List.replicate n 0)) (setBit B e) (e + n + 1)) := by
 obtain ⟨b, g1, g2, _⟩ := hi.word (i := e) hi.top
 have := za7 (ext := ext) c.small c.c169 (W := W) (B := B) (e := e) hk hk2 hn hi.bd g1 g2
 rw [this, setBit, g1]; rfl
theorem zii (c : TextCode code) {W B : List Nat} {e : Nat} (hi : HI W B e) {k n : Nat} (hk : 3 ≤ k) (hk2 : k ≤ 8) (hn : n + e < W.length) :
  callW code ext 615 [.optr 0 0, uint8 k, int64 n] (hMem W B e) = some (.tup [objV e k, int64 0], hMem (setAll (W.set e (n * 256 + k)) (e + 1) (List.replicate n 0)) (setBit B e) (e + n + 1)) := by
 have h1 := za5 (ext := ext) c hi hk hk2 hn
 have hl : (setAll (W.set e (n * 256 + k)) (e + 1) (List.replicate n 0)).length = W.length := by rw [zot, List.length_set]
 have hb : (setBit B e).length = B.length := by simp [setBit]
 generalize setAll (W.set e (n * 256 + k)) (e + 1) (List.replicate n 0) = W' at *
 generalize setBit B e = B' at *
 generalize e + n + 1 = e' at *
 simp only [hMem, hl, hb] at h1
 rw [zb5 code ext c.c615]
 simp -implicitDefEqProofs [x615, h1, hl, hb]
theorem zqb (c : TextCode code) (W B : List Nat) (e : Nat) (a k : Int) : callW code ext 618 [objV a k, int64 0] (hMem W B e) = some (.tup [valV k a, int64 0], hMem W B e) := by
 rw [zb5 code ext c.c618]
 simp -implicitDefEqProofs [x618]
abbrev nMem (W B : List Nat) (e : Nat) (a : Nat) : Mem := [.rich [.osl 1 0 1 W.length (some W.length), .osl 2 0 1 B.length (some B.length), int64 e], .flat (urow W) false, .flat (urow B) false, .rich [uint8 0, int64 0], .rich [.optr 0 0, int64 a, uint8 3]]
abbrev nEnv (s : List UInt8) (i : Nat) : Env := [(1, strO s), (4, .optr 3 0), (6, .optr 4 0), (7, int64 0), (8, int64 i)]
abbrev nEnv2 (s : List UInt8) (i w : Nat) (k : Int) : Env := nEnv s i ++ [(9, uint64 w), (10, int64 k)]
theorem zkn (l : List UInt8) (t : Nat) (c : UInt8) (h : l[t]? = some c) : packL (l.drop t) = c.toNat + 256 * packL (l.drop (t + 1)) := by
 obtain ⟨ht, hc⟩ := List.getElem?_eq_some_iff.1 h
 rw [List.drop_eq_getElem_cons ht, hc]; rfl
theorem zkm (w : Nat) (c : UInt8) (hw : w < 72057594037927936) : ∃ v : Nat, shiftBin .shl .u64 (w : Int) 8 = some (.int .u64 v) ∧ IntKind.wrap .u64 (c.toNat : Int) = c.toNat ∧ intBin .or .u64 (v : Int) (c.toNat : Int) = some (.int .u64 ((c.toNat + 256 * w : Nat) : Int)) := by
 have hc : c.toNat < 256 := c.toNat_lt
 refine ⟨w * 256, ?_, wrapU64 (by omega) (by omega), ?_⟩
 ·unfold shiftBin
  rw [if_neg (by decide)]
  show some (Value.int IntKind.u64 (IntKind.wrap .u64 ((w : Int) * 2 ^ 8))) = _
  rw [show ((w : Int) * 2 ^ 8) = ((w * 256 : Nat) : Int) by omega, wrapU64 (by omega) (by omega)]
 ·rw [or_bin (by omega) (by omega)]
  congr 3
  have : w * 256 ||| c.toNat = w * 256 + c.toNat := by
   rw [show w * 256 = w <<< 8 from by rw [Nat.shiftLeft_eq]]
   rw [Nat.shiftLeft_add_eq_or_of_lt hc]
  rw [this]; omega
theorem nw_in (W B : List Nat) (e a : Nat) (s : List UInt8) (hs : s.length ≤ 4096) (i : Nat) : ∀ (m : Nat) (st : St), (∃ t, t = m ∧ t ≤ 8 ∧ i + t ≤ s.length ∧ st.tidy [1, 4, 6, 7, 8, 9, 10] = ⟨3, nEnv2 s i (packL (((s.drop i).take 8).drop t)) ((i + t : Nat) - 1 : Int), nMem W B e a⟩) →
  ∃ x s', den code ext (.loop [1, 4, 6, 7, 8, 9, 10] x599L1) st = some (x, s') ∧ x ≠ .normal ∧ (x = .exit 3 ∧ s' = ⟨3, nEnv2 s i (packL ((s.drop i).take 8)) ((i : Int) - 1) ++ [(56, avb false)], nMem W B e a⟩) := by
 refine zic _ _ ?_
 rintro m st ⟨t, rfl, ht, hle, hst⟩
 rw [hst]
 cases t with
 | zero =>
  refine ⟨.exit 3, ⟨3, nEnv2 s i (packL ((s.drop i).take 8)) ((i : Int) - 1) ++ [(56, avb false)], nMem W B e a⟩, ?_, .inr ⟨by simp, rfl, rfl⟩⟩
  have e1 : ¬ (i : Int) ≤ (i : Int) - 1 := by omega
  rw [Nat.add_zero, List.drop_zero]
  generalize packL ((s.drop i).take 8) = w
  generalize (i : Int) - 1 = k at *
  simp -implicitDefEqProofs [x599L1, e1]
 | succ t =>
  have hit : i + t < s.length := by omega
  obtain ⟨ch, hch⟩ : ∃ ch, s[i + t]? = some ch := ⟨_, List.getElem?_eq_getElem hit⟩
  have hl : ((s.drop i).take 8)[t]? = some ch := by rw [List.getElem?_take_of_lt (by omega), List.getElem?_drop]; exact hch
  have hp := zkn _ t ch hl
  have hsm : packL (((s.drop i).take 8).drop (t + 1)) < 72057594037927936 := zkl (by rw [List.length_drop, List.length_take]; omega)
  obtain ⟨v, g1, g2, g3⟩ := zkm _ ch hsm
  rw [← hp] at g3
  refine ⟨.normal, ⟨3, nEnv2 s i (packL (((s.drop i).take 8).drop t)) ((i + t : Nat) - 1 : Int), nMem W B e a⟩, ?_, .inl ⟨rfl, t, by omega, t, rfl, by omega, by omega, ?_⟩⟩
  ·have e1 : (i : Int) ≤ ((i + (t + 1) : Nat) : Int) - 1 := by omega
   have e2 : ((i + (t + 1) : Nat) : Int) - 1 = ((i + t : Nat) : Int) := by omega
   obtain ⟨k1, hk⟩ : ∃ k1 : Int, k1 = ((i + t : Nat) : Int) - 1 := ⟨_, rfl⟩
   have e3 : IntKind.wrap .i64 (((i + t : Nat) : Int) - 1) = k1 := by rw [wrapI64 (by omega) (by omega), hk]
   rw [e2] at e1 ⊢
   rw [← hk]
   have hb : (bsO s)[i + t]? = some ch := by rw [zb0]; exact hch
   generalize packL (((s.drop i).take 8).drop (t + 1)) = w at *
   generalize packL (((s.drop i).take 8).drop t) = w' at *
   generalize i + t = it at *
   have e1' : i ≤ it := by omega
   simp -implicitDefEqProofs [-intBin, -shiftBin, b_geq, b_sub, x599L1, e1, e1', e3, hb, g1, g2, g3]
  ·generalize packL (((s.drop i).take 8).drop t) = w'
   generalize ((i + t : Nat) : Int) - 1 = k1
   simp -implicitDefEqProofs []
theorem nw_out (c : TextCode code) {W0 B0 : List Nat} {e : Nat} {s : List UInt8} (hs : s.length ≤ 4096) : ∀ (m : Nat) (st : St), (∃ j i W B, i = 8 * j ∧ m + j = tN s ∧ Making W0 B0 e s j W B ∧ st.tidy [1, 4, 6, 7, 8] = ⟨3, nEnv s i, nMem W B (e + 2 + tN s) e⟩) →
  ∃ x s', den code ext (.loop [1, 4, 6, 7, 8] x599L2) st = some (x, s') ∧ x ≠ .normal ∧ (x = .exit 1 ∧ ∃ i W B, Making W0 B0 e s (tN s) W B ∧ s' = ⟨3, nEnv s i ++ [(45, avb false)], nMem W B (e + 2 + tN s) e⟩) := by
 refine zic _ _ ?_
 rintro m st ⟨j, i, W, B, hij, hm, hmk, hst⟩
 rw [hst]
 by_cases hi : i < s.length
 ·have hj : j < tN s := by unfold tN at *; omega
  have hstep := hmk.step hj
  have hwr := zrk (ext := ext) c.small c.c178 hmk.obj (k := 1 + j) (v := tW s j) (by omega)
  have hl : (W.set (e + 1 + (1 + j)) (tW s j)).length = W.length := List.length_set
  have hmin : ∃ t : Nat, t ≤ 8 ∧ i + t ≤ s.length ∧ (min ((i : Int) + 8) s.length = ((i + t : Nat) : Int)) ∧ ((s.drop i).take 8).drop t = [] := by
   refine ⟨min 8 (s.length - i), by omega, by omega, by omega, ?_⟩
   rw [List.drop_eq_nil_iff, List.length_take, List.length_drop]; omega
  obtain ⟨t, ht8, hts, hmin, hnil⟩ := hmin
  obtain ⟨k0, hk0⟩ : ∃ k0 : Int, k0 = ((i + t : Nat) : Int) - 1 := ⟨_, rfl⟩
  obtain ⟨x, s', h1, _, rfl, rfl⟩ := nw_in (code := code) (ext := ext) W B (e + 2 + tN s) e s hs i t ⟨3, nEnv2 s i 0 k0, nMem W B (e + 2 + tN s) e⟩ ⟨t, rfl, ht8, hts, by rw [hnil, ← hk0]; simp -implicitDefEqProofs [packL]⟩
  have htw : packL ((s.drop i).take 8) = tW s j := by rw [hij]; rfl
  rw [htw] at h1
  obtain ⟨k1, hk1⟩ : ∃ k1 : Int, k1 = (i : Int) - 1 := ⟨_, rfl⟩
  rw [← hk1] at h1
  obtain ⟨i8, hi8⟩ : ∃ i8, i8 = i + 8 := ⟨_, rfl⟩
  have e1 : IntKind.wrap .i64 ((i : Int) + 8) = (i8 : Int) := by rw [wrapI64 (by omega) (by omega)]; omega
  have e2 : (if (s.length : Int) < (i8 : Int) then (s.length : Int) else i8) = k0 + 1 := by
   rw [hk0]; split <;> omega
  have e2' : (if s.length < i8 then (s.length : Int) else i8) = k0 + 1 := by
   rw [hk0]; split <;> omega
  have e3 : IntKind.wrap .i64 (k0 + 1 - 1) = k0 := by rw [wrapI64 (by omega) (by omega)]; omega
  have e3' : IntKind.wrap .i64 k0 = k0 := wrapI64 (by omega) (by omega)
  have e4 : (i : Int).tdiv 8 = j := by rw [Int.tdiv_eq_ediv_of_nonneg (by omega)]; omega
  have e5 : IntKind.wrap .i64 (j : Int) = j := wrapI64 (by unfold tN at *; omega) (by unfold tN at *; omega)
  obtain ⟨j1, hj1⟩ : ∃ j1, j1 = 1 + j := ⟨_, rfl⟩
  have e6 : IntKind.wrap .i64 (1 + (j : Int)) = (j1 : Int) := by rw [wrapI64 (by unfold tN at *; omega) (by unfold tN at *; omega)]; omega
  have e7 : (i : Int) < s.length := by omega
  refine ⟨.normal, ⟨3, nEnv s i8, nMem (W.set (e + 1 + (1 + j)) (tW s j)) B (e + 2 + tN s) e⟩, ?_, .inl ⟨rfl, m - 1, by omega, j + 1, i8, _, _, by omega, by omega, hstep, by simp -implicitDefEqProofs []⟩⟩
  rw [← hj1] at hwr ⊢ hl
  generalize W.set (e + 1 + j1) (tW s j) = W' at *
  generalize e + 2 + tN s = e' at *
  generalize tW s j = w at *
  simp only [nEnv2, nEnv, uint64, u64v, Int.natCast_zero, List.cons_append, List.nil_append] at h1
  simp only [hMem, hl] at hwr
  simp -implicitDefEqProofs [-intBin, b_lss, b_add, b_sub, show ∀ x : Int, intBin .quo .i64 x 8 = some (.int .i64 (IntKind.wrap .i64 (x.tdiv 8))) from fun x => rfl, x599L2, e1, e2, e2', e3, e3', e4, e5, e6, e7, hi, h1, hwr, hl]
 ·have hj : j = tN s := by
   have := hm
   unfold tN at *; omega
  subst hj
  have e1 : ¬ (i : Int) < s.length := by omega
  refine ⟨.exit 1, ⟨3, nEnv s i ++ [(45, avb false)], nMem W B (e + 2 + tN s) e⟩, ?_, .inr ⟨by simp, rfl, i, W, B, hmk, rfl⟩⟩
  generalize e + 2 + tN s = e' at *
  simp -implicitDefEqProofs [x599L2, e1, hi]
end
end Go.EX


set_option linter.unusedVariables false
set_option linter.unusedSimpArgs false
namespace Go.EX
section
variable {code : Nat → Option XFun} {ext : Calls'}
theorem zag (c : TextCode code) {W B : List Nat} {e : Nat} (hi : HI W B e) (s : List UInt8) (hs : s.length ≤ 4096) (hn : 1 + tN s + e < W.length) :
  ∃ W' B', Making W B e s (tN s) W' B' ∧ callW code ext 599 [.optr 0 0, strO s] (hMem W B e) = some (.tup [valV 3 e, int64 0], hMem W' B' (e + 2 + tN s)) := by
 have h0 := zjr (ext := ext) c W B e hi.pos
 have h1 := zii (ext := ext) c hi (k := 3) (n := 1 + tN s) (by decide) (by decide) hn
 have hm0 := Making.start hi s hn (by omega)
 have hl1 : (setAll (W.set e ((1 + tN s) * 256 + 3)) (e + 1) (List.replicate (1 + tN s) 0)).length = W.length := by rw [zot, List.length_set]
 have hb1 : (setBit B e).length = B.length := by simp [setBit]
 have o1 : ObjAt (setAll (W.set e ((1 + tN s) * 256 + 3)) (e + 1) (List.replicate (1 + tN s) 0)) (setBit B e) (e + (1 + tN s) + 1) e (1 + tN s) := by
  have h2 := hi.alloc (n := 1 + tN s) (k := 3) (by decide) hn
  have hbl := hi.bl
  have htop := hi.top
  have hbe : bitAt (setBit B e) e = true := by rw [zbv (by omega)]; simp
  have := h2.obj hbe
  have hh : hd (setAll (W.set e ((1 + tN s) * 256 + 3)) (e + 1) (List.replicate (1 + tN s) 0)) e = 1 + tN s := by
   unfold hd
   rw [zos, if_neg (by omega), List.getElem?_set_self (by omega)]
   simp only [Option.getD_some]
   omega
  rwa [hh] at this
 have h2 := zrk (ext := ext) c.small c.c178 o1 (k := 0) (v := s.length) (by omega)
 have hl2 : ((setAll (W.set e ((1 + tN s) * 256 + 3)) (e + 1) (List.replicate (1 + tN s) 0)).set (e + 1 + 0) s.length).length = W.length := by rw [List.length_set]; exact hl1
 obtain ⟨x, s', h3, _, rfl, i, W', B', hmk, rfl⟩ := nw_out (code := code) (ext := ext) c (W0 := W) (B0 := B) (e := e) (s := s) hs (tN s) ⟨3, nEnv s 0, nMem ((setAll (W.set e ((1 + tN s) * 256 + 3)) (e + 1) (List.replicate (1 + tN s) 0)).set (e + 1 + 0) s.length) (setBit B e) (e + 2 + tN s) e⟩ ⟨0, 0, _, _, rfl, rfl, hm0, by simp -implicitDefEqProofs []⟩
 refine ⟨W', B', hmk, ?_⟩
 have h4 := zqb (ext := ext) c W' B' (e + 2 + tN s) e 3
 have hl3 : W'.length = W.length := hmk.sz
 have hb3 : B'.length = B.length := by have := hmk.hi.bl; have := hi.bl; omega
 obtain ⟨L7, hL7⟩ : ∃ L7, L7 = s.length + 7 := ⟨_, rfl⟩
 have e1 : ¬ (4096 : Int) < s.length := by omega
 have e1' : ¬ 4096 < s.length := by omega
 have e3 : IntKind.wrap .i64 ((s.length : Int) + 7) = (L7 : Int) := by rw [wrapI64 (by omega) (by omega)]; omega
 have e4 : ((L7 : Int).tdiv 8) = tN s := by
  rw [Int.tdiv_eq_ediv_of_nonneg (by omega)]; unfold tN; omega
 have hN : tN s ≤ 520 := by unfold tN; omega
 have e5 : IntKind.wrap .i64 (tN s : Int) = tN s := wrapI64 (by omega) (by omega)
 have e6 : IntKind.wrap .i64 (1 + (tN s : Int)) = ((1 + tN s : Nat) : Int) := by rw [wrapI64 (by omega) (by omega)]; omega
 have e7 : IntKind.wrap .u64 (s.length : Int) = s.length := wrapU64 (by omega) (by omega)
 have e8 : e + (1 + tN s) + 1 = e + 2 + tN s := by omega
 rw [e8] at h1 h2
 generalize setAll (W.set e ((1 + tN s) * 256 + 3)) (e + 1) (List.replicate (1 + tN s) 0) = W1 at *
 generalize W1.set (e + 1 + 0) s.length = W2 at *
 generalize setBit B e = B1 at *
 generalize e + 2 + tN s = e' at *
 generalize 1 + tN s = M at *
 generalize tN s = N at *
 simp only [hMem, hl1, hb1, hl2, Int.natCast_zero, Int.cast_ofNat_Int] at h1 h2
 simp only [nEnv, nMem, hl2, hl3, hb1, hb3, Int.natCast_zero, List.cons_append, List.nil_append] at h3
 simp only [hMem, hl3, hb3, Int.cast_ofNat_Int] at h4
 rw [zb5 code ext c.c599]
 simp -implicitDefEqProofs [-intBin, b_gtr, b_add, b_neq, show ∀ x : Int, intBin .quo .i64 x 8 = some (.int .i64 (IntKind.wrap .i64 (x.tdiv 8))) from fun x => rfl, x599, h0, e1, e1', e3, e4, e5, e6, e7, h1, h2, h3, h4, hl1, hl2, hl3, hb1, hb3]
end
end Go.EX


set_option linter.unusedVariables false
set_option linter.unusedSimpArgs false
namespace Go.EX
structure At (W B : List Nat) (e a k : Nat) (ws : List Nat) : Prop where
 bit : bitAt B a = true
 top : a + 1 + ws.length ≤ e
 head : W[a]? = some (ws.length * 256 + k)
 word : ∀ i, i < ws.length → W[a + 1 + i]? = ws[i]?
 small : k < 256
theorem At.hd {W B : List Nat} {e a k : Nat} {ws : List Nat} (h : At W B e a k ws) : hd W a = ws.length := by
 unfold Go.EX.hd
 rw [h.head]
 have := h.small
 simp only [Option.getD_some]
 omega
theorem At.obj {W B : List Nat} {e a k : Nat} {ws : List Nat} (h : At W B e a k ws) (hi : HI W B e) : ObjAt W B e a ws.length := by
 have := hi.obj h.bit
 rwa [h.hd] at this
theorem At.kind {W B : List Nat} {e a k : Nat} {ws : List Nat} (h : At W B e a k ws) : (ws.length * 256 + k) % 256 = k := by
 have := h.small; omega
def textW (s : List UInt8) : List Nat := s.length :: (List.range (tN s)).map (tW s)
theorem zp3 (s : List UInt8) : (textW s).length = 1 + tN s := by simp [textW]; omega
theorem TextAt.at {W B : List Nat} {e a : Nat} {s : List UInt8} (h : TextAt W B e a s) : At W B e a 3 (textW s) := by
 have ht := h.top
 refine ⟨h.bit, by rw [zp3]; omega, by rw [zp3]; exact h.head, fun i hi => ?_, by decide⟩
 rw [zp3] at hi
 cases i with
 | zero => rw [Nat.add_zero, h.len]; rfl
 | succ i =>
  have := h.word i (by omega)
  rw [show a + 1 + (i + 1) = a + 2 + i by omega, this]
  simp [textW, show i < tN s by omega]
theorem At.text {W B : List Nat} {e a : Nat} {s : List UInt8} (h : At W B e a 3 (textW s)) : TextAt W B e a s := by
 have ht := h.top
 rw [zp3] at ht
 refine ⟨h.bit, by omega, by have := h.head; rwa [zp3] at this, ?_, fun j hj => ?_⟩
 ·have := h.word 0 (by rw [zp3]; omega)
  rw [Nat.add_zero] at this
  rw [this]; rfl
 ·have := h.word (j + 1) (by rw [zp3]; omega)
  rw [show a + 1 + (j + 1) = a + 2 + j by omega] at this
  rw [this]
  simp [textW, hj]
theorem At.apart {W B : List Nat} {e a b k l : Nat} {ws us : List Nat} (hi : HI W B e) (h : At W B e a k ws) (g : At W B e b l us) (hab : a ≠ b) : a + 1 + ws.length ≤ b ∨ b + 1 + us.length ≤ a := by
 rcases Nat.lt_or_ge a b with h1 | h1
 ·left
  have := hi.apart a b h.bit g.bit h1
  rw [h.hd] at this
  exact this
 ·right
  have := hi.apart b a g.bit h.bit (by omega)
  rw [g.hd] at this
  exact this
theorem At.write {W B : List Nat} {e a k i v : Nat} {ws : List Nat} (h : At W B e a k ws) (hi : i < ws.length) (he : e ≤ W.length) : At (W.set (a + 1 + i) v) B e a k (ws.set i v) := by
 have ht := h.top
 refine ⟨h.bit, by rw [List.length_set]; exact ht, by rw [List.length_set, List.getElem?_set_ne (by omega)]; exact h.head, fun j hj => ?_, h.small⟩
 rw [List.length_set] at hj
 by_cases hji : i = j
 ·subst hji
  rw [List.getElem?_set_self (by omega), List.getElem?_set_self hi]
 ·rw [List.getElem?_set_ne (by omega), List.getElem?_set_ne hji]; exact h.word j hj
theorem At.other {W B : List Nat} {e a b k l i v : Nat} {ws us : List Nat} (hi : HI W B e) (h : At W B e a k ws) (hil : i < ws.length) (g : At W B e b l us) (hab : a ≠ b) : At (W.set (a + 1 + i) v) B e b l us := by
 have hap := At.apart hi h g hab
 have hne : ∀ j, j ≤ us.length → a + 1 + i ≠ b + j := fun j hj => by omega
 refine ⟨g.bit, g.top, ?_, fun j hj => ?_, g.small⟩
 ·rw [List.getElem?_set_ne (by have := hne 0 (by omega); omega)]; exact g.head
 ·rw [List.getElem?_set_ne (by have := hne (1 + j) (by omega); omega)]; exact g.word j hj
theorem At.more {W B : List Nat} {e a k : Nat} {ws : List Nat} (h : At W B e a k ws) {W' B' : List Nat} {e' : Nat} (he : e ≤ e') (hw : ∀ i, i < e → W'[i]? = W[i]?) (hb : ∀ i, i < e → bitAt B' i = bitAt B i) : At W' B' e' a k ws := by
 have ht := h.top
 exact ⟨by rw [hb a (by omega)]; exact h.bit, by omega, by rw [hw a (by omega)]; exact h.head, fun i hi => by rw [hw _ (by omega)]; exact h.word i hi, h.small⟩
structure Grown3 (W0 B0 : List Nat) (e n k : Nat) (W B : List Nat) : Prop where
 hi : HI W B (e + n + 1)
 at_ : At W B (e + n + 1) e k (List.replicate n 0)
 old : ∀ i, i < e → W[i]? = W0[i]?
 bits : ∀ i, i < e → bitAt B i = bitAt B0 i
 sz : W.length = W0.length
 szB : B.length = B0.length
theorem grown3 {W B : List Nat} {e n k : Nat} (hi : HI W B e) (hk : k < 256) (hn : n + e < W.length) : Grown3 W B e n k (setAll (W.set e (n * 256 + k)) (e + 1) (List.replicate n 0)) (setBit B e) := by
 have h1 := hi.alloc (n := n) (k := k) hk hn
 have hbl := hi.bl
 have hbit : e / 64 < B.length := by omega
 have hb : ∀ j, bitAt (setBit B e) j = (bitAt B j || decide (j = e)) := zbv hbit
 have hbe : bitAt (setBit B e) e = true := by rw [hb]; simp
 have hlen : (setAll (W.set e (n * 256 + k)) (e + 1) (List.replicate n 0)).length = W.length := by rw [zot, List.length_set]
 refine ⟨h1, ⟨hbe, by simp; omega, ?_, fun i hi => ?_, hk⟩, fun i hi => ?_, fun i hi => ?_, hlen, by simp [setBit]⟩
 ·rw [zos, if_neg (by omega), List.getElem?_set_self (by omega), List.length_replicate]
 ·rw [List.length_replicate] at hi
  rw [zor _ _ _ _ (by simp; omega), if_pos (by simp; omega)]
  congr 1
  omega
 ·rw [zos, if_neg (by omega), List.getElem?_set_ne (by omega)]
 ·rw [hb]
  have : i ≠ e := by omega
  simp [this]
def toW (n : Int) : Nat := (IntKind.wrap .u64 n).toNat
theorem toW_lt (n : Int) : toW n < 18446744073709551616 := by
 unfold toW IntKind.wrap
 simp [IntKind.bits, IntKind.signed]
 omega
theorem zqa (n : Int) : IntKind.wrap .u64 n = (toW n : Int) := by
 unfold toW IntKind.wrap
 simp [IntKind.bits, IntKind.signed]
 omega
theorem zp9 {n : Int} (h1 : -9223372036854775808 ≤ n) (h2 : n ≤ 9223372036854775807) : IntKind.wrap .i64 (toW n : Int) = n := by
 rw [← zqa]
 unfold IntKind.wrap
 simp [IntKind.bits, IntKind.signed]
 omega
def Val.ok3 (v : Val) : Prop := 0 ≤ v.k ∧ v.k ≤ 255 ∧ -9223372036854775808 ≤ v.n ∧ v.n ≤ 9223372036854775807
structure ItemsAt (W B : List Nat) (e p room : Nat) (vs : List Val) : Prop where
 fit : vs.length ≤ room
 vals : ∃ ws, At W B e p 8 ws ∧ ws.length = 2 * room ∧ (∀ (i : Nat) v, vs[i]? = some v → ws[2 * i]? = some v.k.toNat ∧ ws[2 * i + 1]? = some (toW v.n)) ∧ ∀ j, 2 * vs.length ≤ j → j < 2 * room → ws[j]? = some 0
 ok : ∀ v ∈ vs, v.ok3
theorem ItemsAt.more {W B : List Nat} {e p room : Nat} {vs : List Val} (h : ItemsAt W B e p room vs) {W' B' : List Nat} {e' : Nat} (he : e ≤ e') (hw : ∀ i, i < e → W'[i]? = W[i]?) (hb : ∀ i, i < e → bitAt B' i = bitAt B i) : ItemsAt W' B' e' p room vs := by
 obtain ⟨ws, h1, h2, h3⟩ := h.vals
 exact ⟨h.fit, ⟨ws, h1.more he hw hb, h2, h3⟩, h.ok⟩
theorem ItemsAt.other {W B : List Nat} {e p room a k i v : Nat} {ws : List Nat} {vs : List Val} (h : ItemsAt W B e p room vs) (hi : HI W B e) (g : At W B e a k ws) (hil : i < ws.length) (hap : a ≠ p) : ItemsAt (W.set (a + 1 + i) v) B e p room vs := by
 obtain ⟨us, h1, h2, h3⟩ := h.vals
 exact ⟨h.fit, ⟨us, At.other hi g hil h1 hap, h2, h3⟩, h.ok⟩
theorem ItemsAt.hold {W B : List Nat} {e p room j : Nat} {vs us : List Val} {v : Val} (h : ItemsAt W B e p room vs) (he : e ≤ W.length) (hv : v.ok3) (hj : j < room) (hus : (j < vs.length ∧ us = vs.set j v) ∨ (j = vs.length ∧ us = vs ++ [v])) :
  ItemsAt ((W.set (p + 1 + 2 * j) v.k.toNat).set (p + 1 + (2 * j + 1)) (toW v.n)) B e p room us := by
 obtain ⟨ws, h1, h2, h3, h0⟩ := h.vals
 have hf := h.fit
 have g1 := h1.write (i := 2 * j) (v := v.k.toNat) (by omega) he
 have g2 := g1.write (i := 2 * j + 1) (v := toW v.n) (by rw [List.length_set]; omega) (by rw [List.length_set]; exact he)
 refine ⟨?_, ⟨_, g2, by rw [List.length_set, List.length_set]; exact h2, fun i x hx => ?_, fun i hi1 hi2 => ?_⟩, fun x hx => ?_⟩
 ·rcases hus with ⟨_, rfl⟩ | ⟨_, rfl⟩
  ·rw [List.length_set]; exact hf
  ·simp; omega
 ·by_cases hij : i = j
  ·subst hij
   have : x = v := by
    rcases hus with ⟨h4, rfl⟩ | ⟨h4, rfl⟩
    ·rw [List.getElem?_set_self h4] at hx; exact (Option.some.inj hx).symm
    ·rw [h4, List.getElem?_append_right (Nat.le_refl _), Nat.sub_self] at hx; exact (Option.some.inj hx).symm
   subst this
   rw [List.getElem?_set_ne (by omega), List.getElem?_set_self (by omega), List.getElem?_set_self (by rw [List.length_set]; omega)]
   exact ⟨rfl, rfl⟩
  ·have hx' : vs[i]? = some x := by
    rcases hus with ⟨h4, rfl⟩ | ⟨h4, rfl⟩
    ·rwa [List.getElem?_set_ne (Ne.symm hij)] at hx
    ·rw [List.getElem?_append] at hx
     split at hx
     ·exact hx
     ·rename_i h5
      have : i - vs.length ≠ 0 := by omega
      cases hq : i - vs.length with
      | zero => exact absurd hq this
      | succ q => rw [hq] at hx; simp at hx
   obtain ⟨a1, a2⟩ := h3 i x hx'
   rw [List.getElem?_set_ne (by omega), List.getElem?_set_ne (by omega), List.getElem?_set_ne (by omega), List.getElem?_set_ne (by omega)]
   exact ⟨a1, a2⟩
 ·have hlu : vs.length ≤ us.length ∧ j < us.length := by
   rcases hus with ⟨h4, rfl⟩ | ⟨h4, rfl⟩
   ·rw [List.length_set]; exact ⟨Nat.le_refl _, h4⟩
   ·rw [List.length_append]; simp only [List.length_cons, List.length_nil]; omega
  obtain ⟨hl1, hl2⟩ := hlu
  rw [List.getElem?_set_ne (by omega), List.getElem?_set_ne (by omega)]
  exact h0 i (by omega) hi2
 ·rcases hus with ⟨_, rfl⟩ | ⟨_, rfl⟩
  ·rcases List.mem_or_eq_of_mem_set hx with h4 | rfl
   ·exact h.ok x h4
   ·exact hv
  ·rcases List.mem_append.1 hx with h4 | h4
   ·exact h.ok x h4
   ·rw [List.mem_singleton.1 h4]; exact hv
theorem ItemsAt.new {W B : List Nat} {e n room : Nat} {W0 B0 : List Nat} (h : Grown3 W0 B0 e n 8 W B) (hn : n = 2 * room) : ItemsAt W B (e + n + 1) e room [] :=
 ⟨Nat.zero_le _, ⟨_, h.at_, by rw [List.length_replicate, hn], fun i v hv => (by simp at hv), fun j _ hj => by rw [List.getElem?_replicate, if_pos (by omega)]⟩, fun v hv => by cases hv⟩
end Go.EX


set_option linter.unusedVariables false
set_option linter.unusedSimpArgs false
namespace Go.EX
structure RowCode (code : Nat → Option XFun) : Prop extends TextCode code where
 c274 : code 274 = some x274
 c275 : code 275 = some x275
 c278 : code 278 = some x278
 c279 : code 279 = some x279
 c280 : code 280 = some x280
 c283 : code 283 = some x283
 c284 : code 284 = some x284
 c593 : code 593 = some x593
 c597 : code 597 = some x597
 c598 : code 598 = some x598
 c602 : code 602 = some x602
 c606 : code 606 = some x606
 c607 : code 607 = some x607
 c609 : code 609 = some x609
 c612 : code 612 = some x612
 c617 : code 617 = some x617
 c749 : code 749 = some x749
 c759 : code 759 = some x759
abbrev valA (v : Val) : AV := valV v.k v.n
section
variable {code : Nat → Option XFun} {ext : Calls'}
theorem zbo (c : TextCode code) {W B : List Nat} {e a k i v : Nat} {ws : List Nat} (hi : HI W B e) (h : At W B e a k ws) (hv : ws[i]? = some v) (kk : Int) :
  callW code ext 286 [objV a kk, int64 i] (hMem W B e) = some (uint64 v, hMem W B e) := by
 have hil := (List.getElem?_eq_some_iff.1 hv).1
 exact zrf c (h.obj hi) hil (by rw [h.word i hil]; exact hv) kk
theorem zbn (c : TextCode code) {W B : List Nat} {e a k : Nat} {ws : List Nat} (hi : HI W B e) (h : At W B e a k ws) (kk : Int) :
  callW code ext 281 [objV a kk] (hMem W B e) = some (int64 ws.length, hMem W B e) := zj9 c (h.obj hi) kk
theorem zbl (c : TextCode code) {W B : List Nat} {e a k : Nat} {ws : List Nat} (hi : HI W B e) (h : At W B e a k ws) (hk : k < 8) :
  callW code ext 613 [.optr 0 0, valV k a] (hMem W B e) = some (.tup [objV a k, avb true], hMem W B e) := by
 have := zhv (ext := ext) c (h.obj hi) h.head (by rw [h.kind]; exact hk)
 rw [h.kind] at this
 exact this
theorem zbm (c : TextCode code) {W B : List Nat} {e a : Nat} {ws : List Nat} (hi : HI W B e) (h : At W B e a 8 ws) :
  callW code ext 614 [.optr 0 0, int64 a] (hMem W B e) = some (.tup [objV a 8, avb true], hMem W B e) := by
 have h1 := zho (ext := ext) c (h.obj hi) h.head
 rw [h.kind] at h1
 rw [zb5 code ext c.c614]
 simp -implicitDefEqProofs [x614, h1]
theorem zq3 (c : RowCode code) {W B : List Nat} {e p room i : Nat} {vs : List Val} {v : Val} (hi : HI W B e) (h : ItemsAt W B e p room vs) (hv : vs[i]? = some v) (j : Nat) (hj : j = 2 * i) :
  callW code ext 283 [objV p 8, int64 j] (hMem W B e) = some (valA v, hMem W B e) := by
 obtain ⟨ws, h1, h2, h3, _⟩ := h.vals
 obtain ⟨g1, g2⟩ := h3 i v hv
 rw [← hj] at g1 g2
 have hok := h.ok v (List.mem_of_getElem? hv)
 obtain ⟨o1, o2, o3, o4⟩ := hok
 have f1 := zbo (ext := ext) c.toTextCode hi h1 g1 8
 have f2 := zbo (ext := ext) c.toTextCode hi h1 g2 8
 have hbd : j + 1 < 2 * room := by rw [← h2]; exact (List.getElem?_eq_some_iff.1 g2).1
 have htop := h1.top
 have ht2 := hi.top
 have ht3 := hi.bd
 obtain ⟨q, hq⟩ : ∃ q : Nat, v.k = q := ⟨v.k.toNat, by omega⟩
 have hqn : v.k.toNat = q := by omega
 have e1 : ¬ (255 : Int) < q := by omega
 have e1' : ¬ 255 < q := by omega
 have e2 : IntKind.wrap .u8 (q : Int) = q := wrapU8 (by omega) (by omega)
 have e3 := zp9 o3 o4
 obtain ⟨j1, hj1⟩ : ∃ j1, j1 = j + 1 := ⟨_, rfl⟩
 have e4 : IntKind.wrap .i64 ((j : Int) + 1) = (j1 : Int) := by rw [wrapI64 (by omega) (by omega)]; omega
 rw [hqn] at f1
 rw [← hj1] at f2
 rw [zb5 code ext c.c283]
 show _ = some (valV v.k v.n, _)
 rw [hq]
 simp -implicitDefEqProofs [x283, f1, f2, e1, e1', e2, e3, e4]
theorem zgm (c : RowCode code) {W B : List Nat} {e p i : Nat} {ws : List Nat} {v : Val} (hi : HI W B e) (h : At W B e p 8 ws) (hil : i + 1 < ws.length) (hv : v.ok3) :
  callW code ext 275 [objV p 8, int64 i, valA v] (hMem W B e) = some (.tup [], hMem ((W.set (p + 1 + i) v.k.toNat).set (p + 1 + (i + 1)) (toW v.n)) B e) := by
 obtain ⟨o1, o2, o3, o4⟩ := hv
 have htop := h.top
 have ht2 := hi.top
 have ht3 := hi.bd
 have f1 := zrk (ext := ext) c.small c.c178 (h.obj hi) (k := i) (v := v.k.toNat) (by omega)
 have hi2 := hi.write h.bit (k := i) (v := v.k.toNat) (by rw [h.hd]; omega) (by omega)
 have h2 := h.write (i := i) (v := v.k.toNat) (by omega) (by omega)
 have f2 := zrk (ext := ext) c.small c.c178 (h2.obj hi2) (k := i + 1) (v := toW v.n) (by rw [List.length_set]; exact hil)
 have l1 : (W.set (p + 1 + i) v.k.toNat).length = W.length := List.length_set
 have l2 : ((W.set (p + 1 + i) v.k.toNat).set (p + 1 + (i + 1)) (toW v.n)).length = W.length := by rw [List.length_set]; exact l1
 obtain ⟨j1, hj1⟩ : ∃ j1, j1 = i + 1 := ⟨_, rfl⟩
 have e4 : IntKind.wrap .i64 ((i : Int) + 1) = (j1 : Int) := by rw [wrapI64 (by omega) (by omega)]; omega
 obtain ⟨q, hq⟩ : ∃ q : Nat, v.k = q := ⟨v.k.toNat, by omega⟩
 have hqn : v.k.toNat = q := by omega
 have e5 : IntKind.wrap .u64 (q : Int) = (q : Int) := wrapU64 (by omega) (by omega)
 have e6 := zqa v.n
 rw [hqn] at f1 f2 l1 l2 ⊢
 rw [← hj1] at f2 l2 ⊢
 show callW code ext 275 [objV p 8, int64 i, valV v.k v.n] (hMem W B e) = _
 rw [hq]
 clear h2 hi2 hqn
 generalize (W.set (p + 1 + i) q).set (p + 1 + j1) (toW v.n) = W2 at *
 generalize W.set (p + 1 + i) q = W1 at *
 simp only [hMem, l1, l2] at f1 f2
 rw [zb5 code ext c.c275]
 simp -implicitDefEqProofs [x275, f1, f2, e4, e5, e6, l1, l2]
end
end Go.EX


set_option linter.unusedVariables false
set_option linter.unusedSimpArgs false
namespace Go.EX
def gV (id : Nat) (l : List Val) : AV := if l = [] then nilS else .osl id 0 2 l.length none
def gM (l : List Val) : Mem := if l = [] then [] else [.flat (tVal.row l) false]
theorem zq7 (l : List Val) : (tVal.row l).length = l.length * 2 := znj tVal l
section
variable {code : Nat → Option XFun} {ext : Calls'}
abbrev vsEnv (out : AV) (n i : Nat) : Env := [(1, int64 0), (3, .optr 3 0), (6, out), (8, int64 n), (9, int64 i)]
abbrev vsMem (W B : List Nat) (e p : Nat) : Mem := [.rich [.osl 1 0 1 W.length (some W.length), .osl 2 0 1 B.length (some B.length), int64 e], .flat (urow W) false, .flat (urow B) false, .rich [.optr 0 0, int64 p, uint8 8]]
theorem zq4 (c : RowCode code) {W B : List Nat} {e p room : Nat} {vs : List Val} (hi : HI W B e) (h : ItemsAt W B e p room vs) : ∀ (m : Nat) (st : St), (∃ i, m + i = vs.length ∧ st.tidy [1, 3, 6, 8, 9] = ⟨3, vsEnv (gV 4 (vs.take i)) vs.length i, vsMem W B e p ++ gM (vs.take i)⟩) →
  ∃ x s', den code ext (.loop [1, 3, 6, 8, 9] x284L1) st = some (x, s') ∧ x ≠ .normal ∧ (x = .exit 0 ∧ s' = ⟨3, vsEnv (gV 4 vs) vs.length vs.length ++ [(10, avb false)], vsMem W B e p ++ gM vs⟩) := by
 have hfit := h.fit
 have hroom : 2 * room ≤ 1048576 := by
  obtain ⟨ws, h1, h2, _⟩ := h.vals
  have := h1.top; have := hi.top; have := hi.bd; omega
 refine zic _ _ ?_
 rintro m st ⟨i, hm, hst⟩
 rw [hst]
 by_cases hil : i < vs.length
 ·obtain ⟨v, hv⟩ : ∃ v, vs[i]? = some v := ⟨_, List.getElem?_eq_getElem hil⟩
  obtain ⟨j, hj⟩ : ∃ j, j = 2 * i := ⟨_, rfl⟩
  have h1 := zq3 (ext := ext) c hi h hv j hj
  have htake : vs.take (i + 1) = vs.take i ++ [v] := by rw [List.take_add_one, hv]; rfl
  have hlen : (vs.take i).length = i := by rw [List.length_take]; omega
  have hvl := zq7 (vs.take i)
  rw [hlen] at hvl
  have e1 : (i : Int) < vs.length := by omega
  have e2 : IntKind.wrap .i64 (2 * (i : Int)) = (j : Int) := by rw [wrapI64 (by omega) (by omega)]; omega
  have e2' : IntKind.wrap .i64 (0 + (j : Int)) = (j : Int) := by rw [wrapI64 (by omega) (by omega)]; omega
  have e2'' : IntKind.wrap .i64 (j : Int) = (j : Int) := wrapI64 (by omega) (by omega)
  obtain ⟨i1, hi1⟩ : ∃ i1, i1 = i + 1 := ⟨_, rfl⟩
  have e3 : IntKind.wrap .i64 ((i : Int) + 1) = (i1 : Int) := by rw [wrapI64 (by omega) (by omega)]; omega
  have hne : vs.take i1 ≠ [] := by rw [hi1, htake]; simp
  have hl1 : (vs.take i1).length = i1 := by rw [List.length_take]; omega
  have hsn : tVal.row (vs.take i) ++ tVal.enc v = tVal.row (vs.take i1) := by rw [znl, hi1, htake]
  by_cases h0 : i = 0
  ·subst h0
   have hr1 : tVal.enc v = tVal.row (vs.take i1) := by rw [← hsn]; rfl
   refine ⟨.normal, ⟨3, vsEnv (.osl 5 0 2 1 none) vs.length i1, vsMem W B e p ++ [.flat (tVal.enc v) false, .flat (tVal.row (vs.take i1)) false]⟩, ?_, .inl ⟨rfl, m - 1, by omega, i1, by omega, ?_⟩⟩
   ·have hz : gV 4 (vs.take 0) = nilS := rfl
    have hz2 : gM (vs.take 0) = [] := rfl
    have hj0 : j = 0 := by omega
    subst hj0
    have hi11 : i1 = 1 := by omega
    subst hi11
    simp only [Int.natCast_zero] at h1 e1 e2 e3
    rw [hz, hz2, ← hr1]
    simp -implicitDefEqProofs [x284L1, h1, e1, e2, e3, hil, exAppendX, exAppend, elems, tVal, show IntKind.wrap .i64 0 = 0 from rfl, show IntKind.wrap .i64 1 = 1 from rfl]
   ·have hg : gV 4 (vs.take i1) = .osl 4 0 2 1 none := by unfold gV; rw [if_neg hne, hl1, hi1]
    have hg2 : gM (vs.take i1) = [.flat (tVal.row (vs.take i1)) false] := by unfold gM; rw [if_neg hne]
    rw [hg, hg2]
    simp -implicitDefEqProofs []
  ·have hne0 : vs.take i ≠ [] := fun hh => by rw [hh] at hlen; simp at hlen; omega
   have hg0 : gV 4 (vs.take i) = .osl 4 0 2 i none := by unfold gV; rw [if_neg hne0, hlen]
   have hg02 : gM (vs.take i) = [.flat (tVal.row (vs.take i)) false] := by unfold gM; rw [if_neg hne0]
   rw [hg0, hg02]
   have hcut : cut (tVal.row (vs.take i)) 0 (i * 2) = some (tVal.row (vs.take i)) := zct _ hvl
   refine ⟨.normal, ⟨3, vsEnv (.osl 4 0 2 i1 none) vs.length i1, vsMem W B e p ++ [.flat (tVal.row (vs.take i1)) false, .flat (tVal.enc v) false]⟩, ?_, .inl ⟨rfl, m - 1, by omega, i1, by omega, ?_⟩⟩
   ·have e5 : i1 * 16 ≤ 140737488355328 := by omega
    rw [← hsn]
    generalize tVal.row (vs.take i) = R at *
    have e6 : i + 1 = i1 := hi1.symm
    simp -implicitDefEqProofs [x284L1, h1, e1, e2, e2', e2'', e3, hil, exAppendX, exAppend, elems, hcut, e5, e6, tVal]
   ·have hg : gV 4 (vs.take i1) = .osl 4 0 2 i1 none := by unfold gV; rw [if_neg hne, hl1]
    have hg2 : gM (vs.take i1) = [.flat (tVal.row (vs.take i1)) false] := by unfold gM; rw [if_neg hne]
    rw [hg, hg2]
    generalize tVal.row (vs.take i1) = R1
    simp -implicitDefEqProofs []
 ·have hie : i = vs.length := by omega
  subst hie
  have e1 : ¬ (vs.length : Int) < vs.length := by omega
  refine ⟨.exit 0, ⟨3, vsEnv (gV 4 vs) vs.length vs.length ++ [(10, avb false)], vsMem W B e p ++ gM vs⟩, ?_, .inr ⟨by simp, rfl, rfl⟩⟩
  rw [List.take_length]
  simp -implicitDefEqProofs [x284L1, e1]
theorem zq5 (c : RowCode code) {W B : List Nat} {e p room : Nat} {vs : List Val} (hi : HI W B e) (h : ItemsAt W B e p room vs) :
  callW code ext 284 [objV p 8, int64 0, int64 vs.length] (hMem W B e) = some (gV 3 vs, hMem W B e ++ gM vs) := by
 obtain ⟨x, s', h1, _, rfl, rfl⟩ := zq4 (code := code) (ext := ext) c hi h vs.length ⟨3, [(1, int64 0), (3, .optr 3 0), (6, nilS), (8, int64 vs.length), (9, int64 0)], vsMem W B e p⟩ ⟨0, rfl, by rw [List.take_zero]; simp -implicitDefEqProofs [gV, gM]⟩
 rw [zb5 code ext c.c284]
 by_cases hn : vs = []
 ·subst hn
  have g1 : gV 4 [] = nilS := rfl
  have g2 : gV 3 [] = nilS := rfl
  have g3 : gM [] = [] := rfl
  simp only [g1, g2, g3, vsEnv, List.length_nil, Int.natCast_zero, List.append_nil, List.cons_append, List.nil_append] at h1 ⊢
  simp -implicitDefEqProofs [x284, h1]
 ·have g1 : gV 4 vs = .osl 4 0 2 vs.length none := by unfold gV; rw [if_neg hn]
  have g2 : gV 3 vs = .osl 3 0 2 vs.length none := by unfold gV; rw [if_neg hn]
  have g3 : gM vs = [.flat (tVal.row vs) false] := by unfold gM; rw [if_neg hn]
  simp only [g1, g2, g3, vsEnv, Int.natCast_zero, List.cons_append, List.nil_append] at h1 ⊢
  generalize tVal.row vs = R at *
  simp -implicitDefEqProofs [x284, h1]
end
end Go.EX


set_option linter.unusedVariables false
set_option linter.unusedSimpArgs false
namespace Go.EX
def LM (W B : List Nat) (e m k room : Nat) (vs : List Val) : Prop :=
 (room = 0 ∧ vs = [] ∧ At W B e m k [0, 0]) ∨ (0 < room ∧ ∃ p, At W B e m k [vs.length, p + 1] ∧ ItemsAt W B e p room vs)
theorem LM.more {W B : List Nat} {e m k room : Nat} {vs : List Val} (h : LM W B e m k room vs) {W' B' : List Nat} {e' : Nat} (he : e ≤ e') (hw : ∀ i, i < e → W'[i]? = W[i]?) (hb : ∀ i, i < e → bitAt B' i = bitAt B i) : LM W' B' e' m k room vs := by
 rcases h with ⟨h1, h2, h3⟩ | ⟨h1, p, h2, h3⟩
 ·exact .inl ⟨h1, h2, h3.more he hw hb⟩
 ·exact .inr ⟨h1, p, h2.more he hw hb, h3.more he hw hb⟩
theorem LM.fit {W B : List Nat} {e m k room : Nat} {vs : List Val} (h : LM W B e m k room vs) : vs.length ≤ room := by
 rcases h with ⟨h1, h2, h3⟩ | ⟨h1, p, h2, h3⟩
 ·rw [h2]; simp
 ·exact h3.fit
theorem LM.at_ {W B : List Nat} {e m k room : Nat} {vs : List Val} (h : LM W B e m k room vs) : ∃ w, At W B e m k [vs.length, w] := by
 rcases h with ⟨h1, h2, h3⟩ | ⟨h1, p, h2, h3⟩
 ·exact ⟨0, by rw [h2]; exact h3⟩
 ·exact ⟨p + 1, h2⟩
section
variable {code : Nat → Option XFun} {ext : Calls'}
theorem zg9 (c : RowCode code) {W B : List Nat} {e m k p room : Nat} {vs : List Val} (hi : HI W B e) (h : At W B e m k [vs.length, p + 1]) (g : ItemsAt W B e p room vs) (kk : Int) :
  callW code ext 276 [objV m kk] (hMem W B e) = some (.tup [objV p 8, avb true], hMem W B e) := by
 obtain ⟨ws, h1, _, _⟩ := g.vals
 have htop := h1.top; have ht2 := hi.top; have ht3 := hi.bd
 have f1 : callW code ext 286 [objV m kk, int64 1] (hMem W B e) = some (uint64 (p + 1), hMem W B e) := zbo (ext := ext) c.toTextCode hi h (i := 1) (v := p + 1) rfl kk
 have f2 := zbm (ext := ext) c.toTextCode hi h1
 obtain ⟨q, hq⟩ : ∃ q, q = p + 1 := ⟨_, rfl⟩
 have e1 : IntKind.wrap .u64 ((q : Int) - 1) = (p : Int) := by rw [wrapU64 (by omega) (by omega)]; omega
 have e2 : IntKind.wrap .i64 (p : Int) = (p : Int) := wrapI64 (by omega) (by omega)
 rw [← hq] at f1
 rw [zb5 code ext c.c276]
 simp -implicitDefEqProofs [x276, f1, f2, e1, e2, exTouch]
theorem zg8 (c : RowCode code) {W B : List Nat} {e m k : Nat} (hi : HI W B e) (h : At W B e m k [0, 0]) (kk : Int) :
  callW code ext 276 [objV m kk] (hMem W B e) = some (.tup [objV (-1) 8, avb false], hMem W B e) := by
 have f1 : callW code ext 286 [objV m kk, int64 1] (hMem W B e) = some (uint64 0, hMem W B e) := zbo (ext := ext) c.toTextCode hi h (i := 1) (v := 0) rfl kk
 have f3 := zhn (ext := ext) c.toTextCode (W := W) (B := B) (e := e) (i := -1) hi.pos (by have := hi.top; have := hi.bd; omega) (fun h => by omega)
 have f2 : callW code ext 614 [.optr 0 0, int64 (-1)] (hMem W B e) = some (.tup [objV (-1) 8, avb false], hMem W B e) := by
  rw [zb5 code ext c.c614]
  simp -implicitDefEqProofs [x614, f3]
 have e1 : IntKind.wrap .i64 (IntKind.wrap .u64 (-1)) = -1 := by decide
 rw [zb5 code ext c.c276]
 simp -implicitDefEqProofs [x276, f1, f2, e1, exTouch]
theorem znb (c : RowCode code) {W B : List Nat} {e m k room : Nat} {vs : List Val} (hi : HI W B e) (h : LM W B e m k room vs) (kk : Int) :
  callW code ext 280 [objV m kk] (hMem W B e) = some (int64 room, hMem W B e) := by
 rcases h with ⟨h1, h2, h3⟩ | ⟨h1, p, h2, h3⟩
 ·subst h1
  have f1 := zg8 (ext := ext) c hi h3 kk
  rw [zb5 code ext c.c280]
  simp -implicitDefEqProofs [x280, f1]
 ·have f1 := zg9 (ext := ext) c hi h2 h3 kk
  obtain ⟨ws, g1, g2, _⟩ := h3.vals
  have htop := g1.top; have ht2 := hi.top; have ht3 := hi.bd
  have f2 := zbn (ext := ext) c.toTextCode hi g1 8
  have f3 : callW code ext 286 [objV m kk, int64 1] (hMem W B e) = some (uint64 (p + 1), hMem W B e) := zbo (ext := ext) c.toTextCode hi h2 (i := 1) (v := p + 1) rfl kk
  obtain ⟨q, hq⟩ : ∃ q, q = p + 1 := ⟨_, rfl⟩
  rw [← hq] at f3
  have e1 : ¬ (q : Int) = 0 := by omega
  have e1' : ¬ q = 0 := by omega
  have e2 : IntKind.wrap .i64 ((ws.length : Int).tdiv 2) = (room : Int) := by
   rw [Int.tdiv_eq_ediv_of_nonneg (by omega), wrapI64 (by omega) (by omega)]; omega
  have e2' : IntKind.wrap .i64 ((ws.length : Int) / 2) = (room : Int) := by rw [wrapI64 (by omega) (by omega)]; omega
  rw [zb5 code ext c.c280]
  simp -implicitDefEqProofs [-intBin, b_neq, show ∀ x : Int, intBin .quo .i64 x 2 = some (.int .i64 (IntKind.wrap .i64 (x.tdiv 2))) from fun x => rfl, x280, f1, f2, f3, e1, e1', e2, e2']
theorem zkh (c : RowCode code) {W B : List Nat} {e m k room : Nat} {vs : List Val} (hi : HI W B e) (h : LM W B e m k room vs) (kk : Int) :
  callW code ext 278 [objV m kk] (hMem W B e) = some (gV 3 vs, hMem W B e ++ gM vs) := by
 have htop := hi.top; have ht3 := hi.bd
 have e0 : IntKind.wrap .i64 (0 : Int) = 0 := rfl
 rcases h with ⟨h1, h2, h3⟩ | ⟨h1, p, h2, h3⟩
 ·subst h1 h2
  have f1 := zg8 (ext := ext) c hi h3 kk
  have f2 : callW code ext 286 [objV m kk, int64 0] (hMem W B e) = some (uint64 0, hMem W B e) := zbo (ext := ext) c.toTextCode hi h3 (i := 0) (v := 0) rfl kk
  have f3 : callW code ext 284 [objV (-1) 8, int64 0, int64 0] (hMem W B e) = some (nilS, hMem W B e) := by
   have hl : den code ext (.loop [1, 3, 6, 8, 9] x284L1) ⟨3, [(1, int64 0), (3, .optr 3 0), (6, nilS), (8, int64 0), (9, int64 0)], hMem W B e ++ [.rich [.optr 0 0, int64 (-1), uint8 8]]⟩ =
     some (.exit 0, ⟨3, [(1, int64 0), (3, .optr 3 0), (6, nilS), (8, int64 0), (9, int64 0), (10, avb false)], hMem W B e ++ [.rich [.optr 0 0, int64 (-1), uint8 8]]⟩) := by
    rw [zc5]
    simp -implicitDefEqProofs [x284L1]
   simp only [hMem, List.cons_append, List.nil_append] at hl
   rw [zb5 code ext c.c284]
   simp -implicitDefEqProofs [x284, hl]
  rw [zb5 code ext c.c278]
  simp -implicitDefEqProofs [x278, f1, f2, f3, e0, gV, gM]
 ·have f1 := zg9 (ext := ext) c hi h2 h3 kk
  have f2 : callW code ext 286 [objV m kk, int64 0] (hMem W B e) = some (uint64 vs.length, hMem W B e) := zbo (ext := ext) c.toTextCode hi h2 (i := 0) (v := vs.length) rfl kk
  have f3 := zq5 (ext := ext) c hi h3
  have hroom : vs.length ≤ 1048576 := by
   obtain ⟨ws, g1, g2, _⟩ := h3.vals
   have := g1.top; have := h3.fit; omega
  have e1 : IntKind.wrap .i64 (vs.length : Int) = (vs.length : Int) := wrapI64 (by omega) (by omega)
  rw [zb5 code ext c.c278]
  by_cases hn : vs = []
  ·subst hn
   have g2 : gV 3 [] = nilS := rfl
   have g3 : gM [] = [] := rfl
   simp only [g2, g3, List.length_nil, Int.natCast_zero, List.append_nil] at f2 f3 e1 ⊢
   simp -implicitDefEqProofs [x278, f1, f2, f3, e0]
  ·have g2 : gV 3 vs = .osl 3 0 2 vs.length none := by unfold gV; rw [if_neg hn]
   have g3 : gM vs = [.flat (tVal.row vs) false] := by unfold gM; rw [if_neg hn]
   simp only [g2, g3] at f3 ⊢
   generalize tVal.row vs = R at *
   simp -implicitDefEqProofs [x278, f1, f2, f3, e1, exLook]
end
end Go.EX

