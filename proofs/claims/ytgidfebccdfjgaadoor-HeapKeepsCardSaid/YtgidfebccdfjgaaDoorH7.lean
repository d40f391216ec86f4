import Derived.Test.YtgidfebccdfjgaaDoorH6c
set_option linter.unusedVariables false
set_option linter.unusedSimpArgs false
namespace Go.EX
def setBit (B : List Nat) (i : Nat) : List Nat := B.set (i / 64) ((B[i / 64]?).getD 0 ||| 2 ^ (i % 64))
theorem bitAt_set {B : List Nat} {i : Nat} (h : i / 64 < B.length) (j : Nat) : bitAt (setBit B i) j = (bitAt B j || decide (j = i)) := by
  unfold bitAt setBit
  rw [List.getElem?_set]
  by_cases hq : i / 64 = j / 64
  · rw [if_pos hq, if_pos h, ← hq, Option.getD_some, Nat.testBit_or, Nat.testBit_two_pow]
    by_cases hj : j = i
    · subst hj; simp
    · have : i % 64 ≠ j % 64 := by omega
      simp [hj, this]
  · rw [if_neg hq]
    have : j ≠ i := by rintro rfl; exact hq rfl
    simp [this]
theorem setBit_lt {B : List Nat} {i : Nat} (h : ∀ b ∈ B, b < 18446744073709551616) : ∀ b ∈ setBit B i, b < 18446744073709551616 := by
  intro c hc
  rcases List.mem_or_eq_of_mem_set hc with h1 | rfl
  · exact h c h1
  · refine Nat.or_lt_two_pow (n := 64) ?_ (Nat.pow_lt_pow_right (by decide) (by omega))
    cases hq : B[i / 64]? with
    | none => decide
    | some b => exact h b (List.mem_of_getElem? hq)
section
variable {code : Nat → Option XFun} {ext : Calls'}
structure Heaps (code : Nat → Option XFun) (ext : Calls') : Prop where
  small : Smalls code
  c169 : code 169 = some x169
  c170 : code 170 = some x170
  c172 : code 172 = some x172
  c173 : code 173 = some x173
  c174 : code 174 = some x174
  c175 : code 175 = some x175
  c176 : code 176 = some x176
  c177 : code 177 = some x177
  c178 : code 178 = some x178
  c179 : code 179 = some x179
  c180 : code 180 = some x180
  c181 : code 181 = some x181
  c187 : code 187 = some x187
  c567 : code 567 = some x567
  yld : code yieldNo = none
  lz : KnowsLz code ext
  tz : KnowsTz code ext
theorem cut_ok (c : Heaps code ext) {W B : List Nat} {e : Nat} (hi : HI W B e) (a : Nat) (h1 : a ≤ e) (hw : callW code ext 187 [.optr 0 0, int64 a] (hMem W B e) = some (avb false, hMem W B e)) :
    ∃ B', Cleared B a e B' ∧ callW code ext 170 [.optr 0 0, int64 a] (hMem W B e) = some (int64 0, hMem W B' a) := by
  have hg := gone_spec (ext := ext) c.small.c182 W B e hi.pos
  have hbl := hi.bl
  have hbd := hi.bd
  have htop := hi.top
  obtain ⟨B', hc, hf⟩ := forget_spec (code := code) (ext := ext) (W := W) (e := e) c.c181 c.c179 c.c180 c.yld c.tz (lo := a) (hi := e) hi.blt (by omega) (by omega) h1
  refine ⟨B', hc, ?_⟩
  have hlen := hc.len
  have h0 : ¬ ((a : Int) < 0) := by omega
  have h2 : ¬ ((e : Int) < a) := by omega
  have h3 : ¬ (e < a) := by omega
  simp only [hMem, hlen] at hf
  rw [callW_fun code ext c.c170]
  simp -implicitDefEqProofs [-intBin, b_lss, b_gtr, x170, hg, h0, h2, h3, hw, hf, hlen]
theorem urow_cut {W : List Nat} {i n : Nat} (h : i + n ≤ W.length) : cut (urow W) i n = some (urow ((W.drop i).take n)) := by
  refine cut_mk (by simp [urow]) ?_
  rw [urow_len]; simp; omega
theorem move_ok (c : Heaps code ext) {W B : List Nat} {e : Nat} (hi : HI W B e) (i t N : Nat) (hb : bitAt B i = true) (hN : N = hd W i + 1) (ht : t ≤ i)
    (hw : callW code ext 187 [.optr 0 0, int64 t] (hMem W B e) = some (avb false, hMem W B e)) :
    ∃ B', Cleared B t (i + 1) B' ∧ callW code ext 172 [.optr 0 0, int64 i, int64 t] (hMem W B e) = some (int64 0, hMem (setAll W t ((W.drop i).take N)) (setBit B' t) e) := by
  have hg := gone_spec (ext := ext) c.small.c182 W B e hi.pos
  have ho := hi.obj hb
  have his := is_obj (ext := ext) c.small ho
  have hbl := hi.bl
  have hbd := hi.bd
  have htop := hi.top
  have hin := hi.inn i hb
  obtain ⟨w, w1, w2, w3⟩ := ho.head
  have hsz := size_spec (ext := ext) c.small.c186 W B e i w (hd W i) w1 w2 w3
  generalize hd W i = n at *
  obtain ⟨B', hc, hf⟩ := forget_spec (code := code) (ext := ext) (W := W) (e := e) c.c181 c.c179 c.c180 c.yld c.tz (lo := t) (hi := i + 1) hi.blt (by omega) (by omega) (by omega)
  refine ⟨B', hc, ?_⟩
  have hlen := hc.len
  have h0 : ¬ ((t : Int) < 0) := by omega
  have h2 : ¬ ((i : Int) < t) := by omega
  have h3 : ¬ (i < t) := by omega
  obtain ⟨i1, hi1⟩ : ∃ i1, i1 = i + 1 := ⟨_, rfl⟩
  rw [← hi1] at hf
  have e1 : IntKind.wrap .i64 ((i : Int) + 1) = i1 := by rw [wrapI64 (by omega) (by omega)]; omega
  have e2 : IntKind.wrap .i64 ((n : Int) + 1) = N := by rw [wrapI64 (by omega) (by omega)]; omega
  have e3 : IntKind.wrap .i64 ((t : Int) + N) = (t + N : Nat) := by rw [wrapI64 (by omega) (by omega)]; omega
  have e4 : IntKind.wrap .i64 ((i : Int) + N) = (i + N : Nat) := by rw [wrapI64 (by omega) (by omega)]; omega
  obtain ⟨tN, htN⟩ : ∃ tN, tN = t + N := ⟨_, rfl⟩
  obtain ⟨iN, hiN⟩ : ∃ iN, iN = i + N := ⟨_, rfl⟩
  rw [← htN] at e3
  rw [← hiN] at e4
  have f1 : (0 : Int) ≤ t := by omega
  have f2 : (t : Int) ≤ tN := by omega
  have f2' : t ≤ tN := by omega
  have f3 : (tN : Int) ≤ W.length := by omega
  have f3' : tN ≤ W.length := by omega
  have f4 : tN - t = N := by omega
  have f5 : (0 : Int) ≤ i := by omega
  have f6 : (i : Int) ≤ iN := by omega
  have f6' : i ≤ iN := by omega
  have f7 : (iN : Int) ≤ W.length := by omega
  have f7' : iN ≤ W.length := by omega
  have f8 : iN - i = N := by omega
  have f9 : ¬ N = 0 := by omega
  have k1 := urow_cut (W := W) (i := i) (n := N) (by omega)
  have k2 : ((W.drop i).take N).length = N := by simp; omega
  generalize (W.drop i).take N = L at *
  have k3 := setAll_urow L W t
  have k4 := urow_len W
  have k5 := urow_len L
  rw [k2] at k5
  have k6 : t + N ≤ W.length := by omega
  have k7 : (setAll W t L).length = W.length := setAll_len _ _ _
  obtain ⟨q, r, hq, hr, hr64, q1, q2⟩ := place_bin (i := t) (by omega)
  have hqB' : q < B.length := by omega
  have hqB : q < B'.length := by omega
  have g1 : B'[q]? = some B'[q] := List.getElem?_eq_getElem hqB
  have g2 := hc.blt _ (List.getElem_mem hqB)
  unfold setBit
  rw [hq, hr, g1, Option.getD_some]
  generalize B'[q] = b at *
  have s3 := shl_bin hr64
  have hp : (2 : Nat) ^ r < 18446744073709551616 := Nat.pow_lt_pow_right (by decide) hr64
  have s4 := or_bin g2 hp
  generalize (2 : Nat) ^ r = pw at *
  generalize b ||| pw = bo at *
  have s5 := urow_get g1
  have s6 := urow_at g1
  have s7 := urow_set B' q bo
  have s8 := urow_len B'
  rw [hlen] at s8
  have s9 : q + 1 ≤ B.length := by omega
  simp only [hMem, hlen] at hf
  rw [callW_fun code ext c.c172]
  simp -implicitDefEqProofs [-intBin, -shiftBin, b_lss, b_gtr, b_add, x172, hg, his, hsz, h0, h2, h3, hw, hf, hlen, e1, e2, e3, e4, f1, f2, f2', f3, f3', f4, f5, f6, f6', f7, f7', f8, f9, k1, k2, k3, k4, k5, k6, k7, q1, q2, hqB, hqB', s3, s4, s5, s6, s7, s8, s9, exSlice, bounds, shorten, elems, setAll]
end
end Go.EX

