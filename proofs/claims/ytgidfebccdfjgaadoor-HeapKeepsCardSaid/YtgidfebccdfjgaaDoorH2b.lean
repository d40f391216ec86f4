import Derived.Test.YtgidfebccdfjgaaDoorH2
set_option linter.unusedVariables false
set_option linter.unusedSimpArgs false
namespace Go.EX
section
variable {code : Nat → Option XFun} {ext : Calls'}
theorem clear_imms (n : Nat) : imms ((copies n [Value.int .u64 0]).map fun z => AV.imm (IV.val z)) = some (urow (List.replicate n 0)) := by
  have : (copies n [Value.int .u64 0]).map (fun z => AV.imm (IV.val z)) = (urow (List.replicate n 0)).map AV.imm := by
    induction n with
    | zero => rfl
    | succ n ih =>
      have h : urow (List.replicate (n + 1) 0) = u64v 0 :: urow (List.replicate n 0) := by simp only [urow, List.replicate_succ, List.map_cons]
      rw [h]
      simp only [copies, List.singleton_append, List.map_cons, ih]
      rfl
  rw [this, imms_imm]
theorem setAll_urow : ∀ (l W : List Nat) (o : Nat), setAll (urow W) o (urow l) = urow (setAll W o l)
  | [], W, o => rfl
  | x :: l, W, o => by
    show setAll ((urow W).set o (u64v x)) (o + 1) (urow l) = _
    rw [urow_set, setAll_urow l]; rfl
theorem head_bin {n k : Nat} (hn : n ≤ 1048576) (hk : k < 256) : shiftBin .shl .u64 n 8 = some (.int .u64 ((n * 256 : Nat) : Int)) ∧ intBin .or .u64 ((n * 256 : Nat) : Int) k = some (.int .u64 ((n * 256 + k : Nat) : Int)) := by
  constructor
  · unfold shiftBin
    rw [if_neg (by decide)]
    show some (Value.int IntKind.u64 (IntKind.wrap .u64 ((n : Int) * 2 ^ 8))) = _
    rw [wrapU64 (by omega) (by omega)]
    norm_cast
  · rw [or_bin (by omega) (by omega)]
    congr 2
    have := Nat.two_pow_add_eq_or_of_lt (b := k) (i := 8) hk n
    rw [Nat.mul_comm] at this
    rw [← this]
theorem alloc_ok (c : Smalls code) (h : code 169 = some x169) {W B : List Nat} {e n k b : Nat} (hk : 3 ≤ k) (hk2 : k ≤ 8) (hn : n + e < W.length) (hbd : W.length ≤ 1048576) (hb : B[e / 64]? = some b) (hb2 : b < 18446744073709551616) :
    callW code ext 169 [.optr 0 0, .imm (.val (.int .u8 k)), int64 n] (hMem W B e) =
      some (.tup [int64 e, int64 0], hMem (setAll (W.set e (n * 256 + k)) (e + 1) (List.replicate n 0)) (B.set (e / 64) (b ||| 2 ^ (e % 64))) (e + n + 1)) := by
  have hg := gone_spec (ext := ext) c.c182 W B e (by omega)
  obtain ⟨q, r, hq, hr, hr64, e1, e2⟩ := place_bin (i := e) (by omega)
  rw [hq] at hb
  rw [hq, hr]
  obtain ⟨s1, s2⟩ := head_bin (n := n) (k := k) (by omega) (by omega)
  have hlast : (n * 256 + k) / 256 = n := by omega
  have hlt : n * 256 + k < 18446744073709551616 := by omega
  have hlen2 : (setAll (W.set e (n * 256 + k)) (e + 1) (List.replicate n 0)).length = W.length := by rw [setAll_len]; simp
  generalize hH : n * 256 + k = H at *
  generalize n * 256 = N8 at *
  have s3 := shl_bin hr64
  have hp : (2 : Nat) ^ r < 18446744073709551616 := Nat.pow_lt_pow_right (by decide) hr64
  have s4 := or_bin hb2 hp
  generalize (2 : Nat) ^ r = pw at *
  have s5 := urow_get hb
  have s5' := urow_at hb
  generalize hbo : b ||| pw = bo at *
  have hqB : q < B.length := (List.getElem?_eq_some_iff.1 hb).1
  have t1 : ¬ ((k : Int) < 3) := by omega
  have t2 : ¬ ((k : Int) > 8) := by omega
  have t2' : ¬ (8 < (k : Int)) := by omega
  have t3 : ¬ ((n : Int) < 0) := by omega
  have t4 : IntKind.wrap .i64 ((W.length : Int) - e) = (W.length : Int) - e := wrapI64 (by omega) (by omega)
  have t5 : ¬ ((n : Int) ≥ (W.length : Int) - e) := by omega
  have t5' : ¬ ((W.length : Int) - e ≤ n) := by omega
  have t5'' : ¬ ((W.length : Int) ≤ n + e) := by omega
  have t6 : IntKind.wrap .u64 (n : Int) = n := wrapU64 (by omega) (by omega)
  have t7 : IntKind.wrap .u64 (k : Int) = k := wrapU64 (by omega) (by omega)
  have t8 : (0 : Int) ≤ e := by omega
  have t9 : (e : Int) < W.length := by omega
  have t9' : e < W.length := by omega
  have t10 : e + 1 ≤ W.length := by omega
  have t11 : q + 1 ≤ B.length := by omega
  have t12 : IntKind.wrap .i64 ((n : Int) + 1) = (n : Int) + 1 := wrapI64 (by omega) (by omega)
  generalize hE : e + n + 1 = E at *
  have t13 : IntKind.wrap .i64 ((e : Int) + ((n : Int) + 1)) = E := by rw [wrapI64 (by omega) (by omega)]; omega
  have u1 := urow_set W e H
  have u2 := urow_set B q bo
  have u3 := urow_len W
  have u4 := urow_len B
  have hown := own_spec (ext := ext) c.c186 c.c185 (W.set e H) (B.set q bo) E e H n (by simp [t9']) hlast hlt (by simp; omega) (by simp; omega)
  simp only [hMem, List.length_set, ownSl] at hown
  have v1 := clear_imms n
  have v2 := setAll_urow (List.replicate n 0) (W.set e H) (e + 1)
  have v3 : e + 1 + n ≤ W.length := by omega
  have v4 := urow_len (W.set e H)
  have v5 := urow_len (List.replicate n 0)
  rw [List.length_set] at v4
  rw [List.length_replicate] at v5
  rw [callW_fun code ext h]
  by_cases hn0 : n = 0
  · subst hn0
    simp only [Int.natCast_zero, Int.zero_add] at s1 t3 t5 t5' t5'' t6 t12 t13
    have w1 : ¬ ((W.length : Int) - e ≤ 0) := by omega
    have w2 : ¬ ((W.length : Int) ≤ e) := by omega
    have w3 : ¬ (W.length ≤ e) := by omega
    have w4 : IntKind.wrap .u64 0 = 0 := by decide
    have w5 : IntKind.wrap .i64 1 = 1 := by decide
    simp -implicitDefEqProofs [-intBin, -shiftBin, b_add, b_sub, b_lss, b_gtr, b_geq, x169, hg, e1, e2, s1, s2, s3, s4, s5, s5', hqB, t1, t2, t2', t3, t4, t5, t5', t5'', t6, t7, t8, t9, t9', t10, t11, t12, t13, u1, u2, u3, u4, hown, setAll, hlen2, w1, w2, w3, w4, w5]
  · simp -implicitDefEqProofs [-intBin, -shiftBin, b_add, b_sub, b_lss, b_gtr, b_geq, x169, hg, e1, e2, s1, s2, s3, s4, s5, s5', hqB, t1, t2, t2', t3, t4, t5, t5', t5'', t6, t7, t8, t9, t9', t10, t11, t12, t13, u1, u2, u3, u4, hown, hn0, v1, v2, v3, v4, v5, setAll, hlen2]
end
end Go.EX

