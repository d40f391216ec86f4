import Derived.Test.YtgidfebccdfjgaaDoorH8
set_option linter.unusedVariables false
set_option linter.unusedSimpArgs false
namespace Go.EX
section
variable {code : Nat → Option XFun} {ext : Calls'}
theorem wfU16 {n : Int} : (tInt .u16).wf n ↔ 0 ≤ n ∧ n ≤ 65535 := by
  simp [tInt, Lit.wf, IntKind.min, IntKind.max, IntKind.signed, IntKind.bits]
abbrev fiEnv (iv : IV) (all used i : Nat) : Env := [(1, .imm iv), (5, int64 all), (6, .optr 0 0), (8, int64 used), (9, int64 i)]
theorem fills_step (c : Heaps code ext) {iv : IV} {xs : List Int} (hr : Reads (tInt .u16) iv xs) {W B : List Nat} {e i : Nat} (hi : HI W B e) (hW : W.length ≤ 65536) (hil : i < xs.length) (hi3 : i < 300) :
    ∃ s' W' B' e', den code ext x316L1 ⟨0, fiEnv iv W.length e i, hMem W B e⟩ = some (.normal, s') ∧ HI W' B' e' ∧ W'.length = W.length ∧ s'.tidy [1, 5, 6, 8, 9] = ⟨0, fiEnv iv W.length e' (i + 1), hMem W' B' e'⟩ := by
  have htop := hi.top
  have hx := List.getElem?_eq_getElem hil
  have hwf := wfU16.1 (hr.1 _ (List.getElem_mem hil))
  obtain ⟨row, off, cap, rfl, _, _, hcut⟩ := reads_pos hr hx
  generalize xs[i] = x at *
  have hel : row[off + i]? = some (.val (.int .u16 x)) := cut_one (by simpa [tInt] using hcut)
  have hlen : xs.length ≤ 140737488355328 := hr.2.1
  obtain ⟨n, hn⟩ : ∃ n : Nat, x.tmod 2000 = n ∧ n < 2000 := ⟨(x.tmod 2000).toNat, by
    rw [Int.tmod_eq_emod_of_nonneg hwf.1]; omega⟩
  have e1 : intBin .rem .u16 x 2000 = some (.int .u16 n) := by simp only [intBin, hn.1]; rfl
  have e2 : IntKind.wrap .i64 (n : Int) = n := wrapI64 (by omega) (by omega)
  have e3 : IntKind.wrap .i64 ((e : Int) + n) = (e : Int) + n := wrapI64 (by omega) (by omega)
  have e4 : IntKind.wrap .i64 ((e : Int) + n + 1) = (e : Int) + n + 1 := wrapI64 (by omega) (by omega)
  have e5 : (i : Int) < xs.length := by omega
  have e6 : (i : Int) < 300 := by omega
  have e7 : IntKind.wrap .i64 ((i : Int) + 1) = (i : Int) + 1 := wrapI64 (by omega) (by omega)
  have e8 : (0 : Int) ≤ i := by omega
  by_cases hf : n + e < W.length
  · have ha := alloc_step (ext := ext) c hi (k := 3) (n := n) (by decide) (by decide) hf
    have hi' := hi.alloc (n := n) (k := 3) (by decide) hf
    have hl : (setAll (W.set e (n * 256 + 3)) (e + 1) (List.replicate n 0)).length = W.length := by rw [setAll_len]; simp
    have hbl : (setBit B e).length = B.length := by simp [setBit]
    generalize setAll (W.set e (n * 256 + 3)) (e + 1) (List.replicate n 0) = W' at *
    generalize setBit B e = B' at *
    simp only [hMem, hl, hbl, Int.cast_ofNat_Int] at ha
    have g1 : ¬ ((e : Int) + n + 1 > W.length) := by omega
    have g2 : ¬ ((W.length : Int) < (e : Int) + n + 1) := by omega
    have g3 : ¬ (W.length < e + n + 1) := by omega
    refine ⟨⟨0, fiEnv (.slice row off xs.length cap) W.length (e + n + 1) (i + 1), hMem W' B' (e + n + 1)⟩, W', B', e + n + 1, ?_, hi', hl, ?_⟩
    · simp -implicitDefEqProofs [-intBin, b_lss, b_add, b_gtr, b_neq, x316L1, hel, e1, e2, e3, e4, e5, e6, e7, e8, hil, hi3, ha, g1, g2, g3, hl, hbl]
    · simp -implicitDefEqProofs [hl, hbl]
  · have ha := alloc_full (ext := ext) c.small c.c169 (W := W) (B := B) (e := e) (k := 3) (n := n) (by decide) (by decide) (by omega) (by omega) hi.top hi.pos hi.bd
    have g1 : ((e : Int) + n + 1 > W.length) := by omega
    have g2 : ((W.length : Int) < (e : Int) + n + 1) := by omega
    have g3 : (W.length < e + n + 1) := by omega
    refine ⟨⟨0, fiEnv (.slice row off xs.length cap) W.length e (i + 1), hMem W B e⟩, W, B, e, ?_, hi, rfl, ?_⟩
    · simp -implicitDefEqProofs [-intBin, b_lss, b_add, b_gtr, b_neq, x316L1, hel, e1, e2, e3, e4, e5, e6, e7, e8, hil, hi3, ha, g1, g2, g3]
    · simp -implicitDefEqProofs []
theorem fills_ok (c : Heaps code ext) (h : code 316 = some x316) (h2 : code 381 = some x381) {iv : IV} {xs : List Int} (hr : Reads (tInt .u16) iv xs) (words : Nat) (hw : words ≤ 65535) :
    callW code ext 316 [.imm (.val (.int .u16 words)), .imm iv] [] = some (avb true, []) := by
  have hlen := reads_len hr
  have hl14 : xs.length ≤ 140737488355328 := hr.2.1
  obtain ⟨all, hall⟩ : ∃ all, all = 1 + words := ⟨_, rfl⟩
  have hn := new_ok (ext := ext) c.c567 all (by omega) (by omega)
  have hi := HI.new all (by omega) (by omega)
  have hW : (List.replicate all 0).length = all := by simp
  generalize List.replicate all 0 = W at *
  generalize List.replicate (all / 64 + 1) 0 = B at *
  have loop : ∀ s : St, s.tidy [1, 5, 6, 8, 9] = ⟨0, fiEnv iv W.length 0 0, hMem W B 0⟩ → ∃ x s', den code ext (.loop [1, 5, 6, 8, 9] x316L1) s = some (x, s') ∧ x ≠ .normal ∧
      (x = .exit 0 ∧ ∃ W' B' e', ∃ i : Nat, ∃ b, s' = ⟨0, fiEnv iv W.length e' i ++ [(34, avb b)], hMem W' B' e'⟩) := by
    intro s hs
    refine loop_rule (fun n s => ∃ (i : Nat) (W' B' : List Nat) (e' : Nat), n + i = xs.length ∧ HI W' B' e' ∧ W'.length = W.length ∧ s.tidy [1, 5, 6, 8, 9] = ⟨0, fiEnv iv W.length e' i, hMem W' B' e'⟩) _ ?_ xs.length s ⟨0, W, B, 0, rfl, hi, rfl, hs⟩
    clear hs s
    rintro n s ⟨i, W', B', e', hi1, hi2, hi3, hs⟩
    rw [hs]
    by_cases hil : i < xs.length
    · by_cases hi300 : i < 300
      · obtain ⟨s', W2, B2, e2, g1, g2, g3, g4⟩ := fills_step (ext := ext) c hr hi2 (by omega) hil hi300
        rw [hi3] at g1 g3 g4
        exact ⟨.normal, s', g1, .inl ⟨rfl, n - 1, by omega, i + 1, W2, B2, e2, by omega, g2, g3, g4⟩⟩
      · have e5 : (i : Int) < xs.length := by omega
        have e6 : ¬ ((i : Int) < 300) := by omega
        refine ⟨.exit 0, ⟨0, fiEnv iv W.length e' i ++ [(34, avb false)], hMem W' B' e'⟩, ?_, .inr ⟨by simp, rfl, W', B', e', i, false, rfl⟩⟩
        simp -implicitDefEqProofs [-intBin, b_lss, x316L1, hlen, hil, hi300, e5, e6]
    · have e5 : ¬ ((i : Int) < xs.length) := by omega
      refine ⟨.exit 0, ⟨0, fiEnv iv W.length e' i ++ [(34, avb false)], hMem W' B' e'⟩, ?_, .inr ⟨by simp, rfl, W', B', e', i, false, rfl⟩⟩
      simp -implicitDefEqProofs [-intBin, b_lss, x316L1, hlen, hil, e5]
  obtain ⟨x, s', h1, _, rfl, W', B', e', i, b, rfl⟩ := loop ⟨0, fiEnv iv W.length 0 0, hMem W B 0⟩ (by simp -implicitDefEqProofs [])
  have hal := alive_ok (ext := ext) c h2
  have hu := used_spec (ext := ext) c.c176 W' B' e'
  have e1 : IntKind.wrap .i64 (words : Int) = words := wrapI64 (by omega) (by omega)
  have e2 : IntKind.wrap .i64 (1 + (words : Int)) = all := by rw [wrapI64 (by omega) (by omega)]; omega
  simp only [hMem, hW, fiEnv, Int.natCast_zero] at hn h1
  rw [callW_fun code ext h]
  simp -implicitDefEqProofs [-intBin, b_add, b_neq, b_eql, x316, hn, h1, hal, hu, e1, e2]
end
end Go.EX

