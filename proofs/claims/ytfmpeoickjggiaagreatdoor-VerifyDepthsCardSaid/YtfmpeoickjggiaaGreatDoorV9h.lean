import Derived.Test.YtfmpeoickjggiaaGreatDoorV9g
set_option linter.unusedVariables false
set_option linter.unusedSimpArgs false
namespace Go.EX
attribute [local simp] ck_ren
theorem codeGo_drop {ps : List Fn} {fn : Nat} {f : Fn} {ms : List (Int × Int)} {pc : Nat} {i : Ins} (hi : f.code.xs[pc]? = some i) :
    codeGo ps fn f (f.code.xs.drop pc) pc ms = if (codeStep ps fn f ms pc i).1 = true then codeGo ps fn f (f.code.xs.drop (pc + 1)) (pc + 1) (codeStep ps fn f ms pc i).2 else ((pc : Int), (codeStep ps fn f ms pc i).2) := by
  obtain ⟨hlt, he⟩ := List.getElem?_eq_some_iff.1 hi
  rw [List.drop_eq_getElem_cons hlt, he, codeGo]
set_option maxRecDepth 100000 in
set_option maxHeartbeats 4000000 in
theorem code_spec {pv : IV} {ps : List Fn} (hp : Reads tFn pv ps) (ms : List (Int × Int)) (fn : Nat) (f : Fn) (hf : ps[fn]? = some f) :
    run9 247 [.optr 0 0, int64 fn] (ckMem pv ms) = some (int64 (codeGo ps fn f f.code.xs 0 ms).1, ckMem pv (codeGo ps fn f f.code.xs 0 ms).2) := by
  have hltf := (List.getElem?_eq_some_iff.1 hf).1
  have hbf := hp.2.1
  have hlf : (fn : Int) < ps.length := by omega
  have hfn0 : (0 : Int) ≤ (fn : Int) := by omega
  have l5 := reads_len f.code.ok
  have hb := f.code.ok.2.1
  have loop : ∃ e s', den code9 (extInsert 766) (.loop [0, 1, 5, 17, 18, 19] x247L1) ⟨2, [(0, .optr 0 0), (1, int64 fn), (5, .optr 2 0), (17, .imm f.code.iv), (18, int64 f.code.xs.length), (19, int64 0)], ckMem pv ms ++ [.rich (fnCells f)]⟩ = some (e, s') ∧ e ≠ .normal ∧
      ((e = .exit 0 ∧ (codeGo ps fn f f.code.xs 0 ms).1 = -1 ∧ ∃ env rest, s' = ⟨2, env, ckMem pv (codeGo ps fn f f.code.xs 0 ms).2 ++ rest⟩) ∨
       (e = .ret ∧ ∃ rest, s' = ⟨2, [(4, int64 (codeGo ps fn f f.code.xs 0 ms).1)], ckMem pv (codeGo ps fn f f.code.xs 0 ms).2 ++ rest⟩)) := by
    refine loop_rule (fun n s => ∃ (i : Nat) (ms' : List (Int × Int)), i + n = f.code.xs.length ∧ codeGo ps fn f (f.code.xs.drop i) i ms' = codeGo ps fn f f.code.xs 0 ms ∧
      s.tidy [0, 1, 5, 17, 18, 19] = ⟨2, [(0, .optr 0 0), (1, int64 fn), (5, .optr 2 0), (17, .imm f.code.iv), (18, int64 f.code.xs.length), (19, int64 i)], ckMem pv ms' ++ [.rich (fnCells f)]⟩) _ ?_ f.code.xs.length _ ⟨0, ms, by simp, by simp, by simp -implicitDefEqProofs [ckMem]⟩
    rintro n s ⟨i, ms', hi, hgo, hst⟩
    rw [hst]
    by_cases hlt : i < f.code.xs.length
    · have hx := List.getElem?_eq_getElem hlt
      rw [codeGo_drop hx] at hgo
      obtain ⟨e, s', h1, ⟨rfl, h2, rfl⟩ | ⟨rfl, h2, rfl⟩⟩ := code_step hp ms' fn f hf i _ hx
      · rw [if_pos h2] at hgo
        refine ⟨_, _, h1, .inl ⟨rfl, n - 1, by omega, i + 1, _, by omega, hgo, ?_⟩⟩
        generalize (codeStep ps fn f ms' i f.code.xs[i]).2 = ms2
        simp -implicitDefEqProofs [ckMem]
      · rw [if_neg (by rw [h2]; decide)] at hgo
        refine ⟨_, _, h1, .inr ⟨by simp, .inr ⟨rfl, ?_⟩⟩⟩
        rw [← hgo]
        exact ⟨_, rfl⟩
    · have : i = f.code.xs.length := by omega
      subst this
      rw [List.drop_length, codeGo] at hgo
      refine ⟨.exit 0, ⟨2, [(0, .optr 0 0), (1, int64 fn), (5, .optr 2 0), (17, .imm f.code.iv), (18, int64 f.code.xs.length), (19, int64 f.code.xs.length), (20, avb false)], ckMem pv ms' ++ [.rich (fnCells f)]⟩, ?_, .inr ⟨by simp, .inl ⟨rfl, by rw [← hgo], ?_⟩⟩⟩
      · simp -implicitDefEqProofs [x247L1]
      · rw [← hgo]; exact ⟨_, _, rfl⟩
  generalize codeGo ps fn f f.code.xs 0 ms = res at loop ⊢
  obtain ⟨r, ms2⟩ := res
  unfold run9
  rw [callW_fun code9 (extInsert 766) (rfl : code9 247 = some x247)]
  obtain ⟨row, off, cap, rfl, hc, hcut, hget⟩ := reads_pos hp hf
  simp only [tFn] at hget
  obtain ⟨e, s', h1, _, ⟨rfl, h2, env, rest, rfl⟩ | ⟨rfl, rest, rfl⟩⟩ := loop
  · simp only [ckMem, List.cons_append, List.nil_append] at h1 h2 ⊢
    simp -implicitDefEqProofs [x247, hget, hlf, hfn0, hltf, l5, h1, h2]
  · simp only [ckMem, List.cons_append, List.nil_append] at h1 ⊢
    simp -implicitDefEqProofs [x247, hget, hlf, hfn0, hltf, l5, h1]
end Go.EX

