import Derived.Test.YtgidfebccdfjgaaDoorH1b
set_option linter.unusedVariables false
set_option linter.unusedSimpArgs false
namespace Go.EX
structure ObjAt (W B : List Nat) (e i n : Nat) : Prop where
  lt : i + 1 + n ≤ e
  top : e ≤ W.length
  bd : W.length ≤ 1048576
  bit : ∃ b, B[i / 64]? = some b ∧ b < 18446744073709551616 ∧ b.testBit (i % 64) = true
  head : ∃ w, W[i]? = some w ∧ w / 256 = n ∧ w < 18446744073709551616
def NoObj (B : List Nat) (e : Nat) (i : Int) : Prop := 0 ≤ i → i < e → ∃ b, B[i.toNat / 64]? = some b ∧ b < 18446744073709551616 ∧ b.testBit (i.toNat % 64) = false
section
variable {code : Nat → Option XFun} {ext : Calls'}
structure Smalls (code : Nat → Option XFun) : Prop where
  c182 : code 182 = some x182
  c183 : code 183 = some x183
  c184 : code 184 = some x184
  c185 : code 185 = some x185
  c186 : code 186 = some x186
theorem is_obj (c : Smalls code) {W B : List Nat} {e i n : Nat} (o : ObjAt W B e i n) : callW code ext 183 [.optr 0 0, int64 i] (hMem W B e) = some (avb true, hMem W B e) := by
  obtain ⟨b, h1, h2, h3⟩ := o.bit
  rw [is_yes c.c183 W B e i b (by have := o.lt; omega) h1 h2 (by have := o.top; have := o.bd; omega), h3]
theorem look_obj (c : Smalls code) {W B : List Nat} {e i n : Nat} (o : ObjAt W B e i n) :
    callW code ext 184 [.optr 0 0, int64 i] (hMem W B e) = some (.tup [ownSl W i n, int64 0], hMem W B e) := by
  obtain ⟨w, w1, w2, w3⟩ := o.head
  have h1 := gone_spec (ext := ext) c.c182 W B e (by have := o.lt; have := o.top; omega)
  have h2 := is_obj (ext := ext) c o
  have h3 := own_spec (ext := ext) c.c186 c.c185 W B e i w n w1 w2 w3 (by have := o.lt; have := o.top; omega) o.bd
  rw [callW_fun code ext c.c184]
  simp -implicitDefEqProofs [x184, h1, h2, h3]
theorem read_obj (c : Smalls code) (h : code 174 = some x174) {W B : List Nat} {e i n : Nat} (o : ObjAt W B e i n) {k v : Nat} (hk : k < n) (hv : W[i + 1 + k]? = some v) :
    callW code ext 174 [.optr 0 0, int64 i, int64 k] (hMem W B e) = some (.tup [uint64 v, int64 0], hMem W B e) := by
  have h1 := look_obj (ext := ext) c o
  have h2 := urow_get hv
  have e1 : ¬ ((k : Int) < 0) := by omega
  have e2 : ¬ ((k : Int) ≥ n) := by omega
  have e3 : (k : Int) < n := by omega
  rw [callW_fun code ext h]
  simp -implicitDefEqProofs [x174, h1, h2, e1, e2, e3, hk]
theorem write_obj (c : Smalls code) (h : code 178 = some x178) {W B : List Nat} {e i n : Nat} (o : ObjAt W B e i n) {k v : Nat} (hk : k < n) :
    callW code ext 178 [.optr 0 0, int64 i, int64 k, uint64 v] (hMem W B e) = some (int64 0, hMem (W.set (i + 1 + k) v) B e) := by
  have h1 := look_obj (ext := ext) c o
  have h2 := urow_set W (i + 1 + k) v
  have h3 := urow_len W
  have e1 : ¬ ((k : Int) < 0) := by omega
  have e2 : ¬ ((k : Int) ≥ n) := by omega
  have e3 : (k : Int) < n := by omega
  have e4 : i + 1 + k + 1 ≤ W.length := by have := o.lt; have := o.top; omega
  have e5 : i + 1 + k < W.length := by omega
  rw [callW_fun code ext h]
  simp -implicitDefEqProofs [x178, h1, h2, h3, e1, e2, e3, e4, e5, hk]
  simp [setAll, h2]
end
end Go.EX

