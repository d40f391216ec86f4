import Derived.Test.YtgidfebccdfjgaaDoorH10
set_option linter.unusedVariables false
set_option linter.unusedSimpArgs false
namespace Go.EX
section
variable {code : Nat → Option XFun} {ext : Calls'}
abbrev apEnv (N : Nat) (iv : IV) (i : Nat) : Env := [(0, int64 N), (1, .imm iv), (5, .optr 0 0), (7, int64 i)]
abbrev hopObj (kind k size a t w : Int) : AObj := .rich [.imm (.val (.int .u8 kind)), .imm (.val (.int .u8 k)), int64 size, int64 a, int64 t, .imm (.val (.int .u64 w))]
theorem ap_step (c : Heaps code ext) (N : Nat) {iv : IV} {xs : List HOp} (hr : Reads tHOp iv xs) {W B : List Nat} {e i : Nat} (hi : HI W B e) (hil : i < xs.length) :
    ∃ s' W' B' e', den code ext x315L1 ⟨0, apEnv N iv i, hMem W B e⟩ = some (.normal, s') ∧ HI W' B' e' ∧ W'.length = W.length ∧ s'.tidy [0, 1, 5, 7] = ⟨0, apEnv N iv (i + 1), hMem W' B' e'⟩ := by
  have hx := List.getElem?_eq_getElem hil
  have hwf := hr.1 _ (List.getElem_mem hil)
  obtain ⟨row, off, cap, rfl, _, _, hget⟩ := reads_pos hr hx
  generalize xs[i] = x at *
  obtain ⟨kind, k, size, at_, to, w⟩ := x
  obtain ⟨w1, w2, w3, w4, w5, w6⟩ := hwf
  simp only [tHOp] at hget
  have w1 := wfU8.1 w1
  have w2 := wfU8.1 w2
  have w3 := wfI64.1 w3
  have w4 := wfI64.1 w4
  have w5 := wfI64.1 w5
  simp only at w1 w2 w3 w4 w5
  have hlen : xs.length ≤ 140737488355328 := hr.2.1
  have e5 : (i : Int) < xs.length := by omega
  have e7 : IntKind.wrap .i64 ((i : Int) + 1) = (i : Int) + 1 := wrapI64 (by omega) (by omega)
  by_cases k1 : kind = 1
  · subst k1
    obtain ⟨a, b, W', B', e', ha, hi', hl⟩ := alloc_any (ext := ext) c hi k size (by omega)
    have hbl : B'.length = B.length := by rw [hi'.bl, hi.bl, hl]
    simp only [hMem, hl, hbl] at ha
    refine ⟨⟨0, apEnv N (.slice row off xs.length cap) (i + 1), hMem W' B' e' ++ [hopObj 1 k size at_ to w]⟩, W', B', e', ?_, hi', hl, ?_⟩
    · simp -implicitDefEqProofs [-intBin, b_lss, b_add, b_eql, x315L1, hget, e5, e7, hil, ha, hl, hbl]
    · simp -implicitDefEqProofs [hl, hbl]
  · by_cases k3 : kind = 3
    · subst k3
      obtain ⟨b, W', B', e', ha, hi', hl⟩ := move_any (ext := ext) c hi at_ to (by omega)
      have hbl : B'.length = B.length := by rw [hi'.bl, hi.bl, hl]
      simp only [hMem, hl, hbl] at ha
      refine ⟨⟨0, apEnv N (.slice row off xs.length cap) (i + 1), hMem W' B' e' ++ [hopObj 3 k size at_ to w]⟩, W', B', e', ?_, hi', hl, ?_⟩
      · simp -implicitDefEqProofs [-intBin, b_lss, b_add, b_eql, x315L1, hget, e5, e7, hil, ha, hl, hbl]
      · simp -implicitDefEqProofs [hl, hbl]
    · by_cases k4 : kind = 4
      · subst k4
        obtain ⟨b, W', B', e', ha, hi', hl⟩ := cut_any (ext := ext) c hi at_ (by omega)
        have hbl : B'.length = B.length := by rw [hi'.bl, hi.bl, hl]
        simp only [hMem, hl, hbl] at ha
        refine ⟨⟨0, apEnv N (.slice row off xs.length cap) (i + 1), hMem W' B' e' ++ [hopObj 4 k size at_ to w]⟩, W', B', e', ?_, hi', hl, ?_⟩
        · simp -implicitDefEqProofs [-intBin, b_lss, b_add, b_eql, x315L1, hget, e5, e7, hil, ha, hl, hbl]
        · simp -implicitDefEqProofs [hl, hbl]
      · refine ⟨⟨0, apEnv N (.slice row off xs.length cap) (i + 1), hMem W B e ++ [hopObj kind k size at_ to w]⟩, W, B, e, ?_, hi, rfl, ?_⟩
        · simp -implicitDefEqProofs [-intBin, b_lss, b_add, b_eql, x315L1, hget, e5, e7, hil, k1, k3, k4]
        · simp -implicitDefEqProofs []
end
end Go.EX

