import Derived.Test.YtgidfebccdfjgaaDoorH13
set_option linter.unusedVariables false
set_option linter.unusedSimpArgs false
namespace Go.EX
section
variable {code : Nat → Option XFun} {ext : Calls'}
theorem ap2_nil (N : Nat) (W B : List Nat) (e : Nat) : den code ext (.loop [0, 5, 9, 10, 11] x315L2) ⟨0, apEnv2 N nilS 0 0, hMem W B e⟩ = some (.exit 3, ⟨0, apEnv2 N nilS 0 0 ++ [(74, avb false)], hMem W B e⟩) := by
  obtain ⟨x, s', g1, _, rfl, rfl⟩ : ∃ x s', den code ext (.loop [0, 5, 9, 10, 11] x315L2) ⟨0, apEnv2 N nilS 0 0, hMem W B e⟩ = some (x, s') ∧ x ≠ .normal ∧ (x = .exit 3 ∧ s' = ⟨0, apEnv2 N nilS 0 0 ++ [(74, avb false)], hMem W B e⟩) := by
    refine loop_rule (fun n s => s.tidy [0, 5, 9, 10, 11] = ⟨0, apEnv2 N nilS 0 0, hMem W B e⟩) _ ?_ 0 _ (by simp -implicitDefEqProofs [])
    rintro n s hs
    rw [hs]
    refine ⟨.exit 3, ⟨0, apEnv2 N nilS 0 0 ++ [(74, avb false)], hMem W B e⟩, ?_, .inr ⟨by simp, rfl, rfl⟩⟩
    simp -implicitDefEqProofs [-intBin, b_lss, x315L2]
  exact g1
set_option maxHeartbeats 2000000 in
theorem apart_ok (c : Heaps code ext) (h : code 315 = some x315) (h2 : code 381 = some x381) {iv : IV} {xs : List HOp} (hr : Reads tHOp iv xs) (words : Int) :
    ∃ m, callW code ext 315 [int64 words, .imm iv] [] = some (avb true, m) := by
  have hlen := reads_len hr
  have hal := alive_ok (ext := ext) c h2
  rw [callW_fun code ext h]
  by_cases h300 : 300 < xs.length
  · have e1 : (300 : Int) < xs.length := by omega
    exact ⟨[], by simp -implicitDefEqProofs [-intBin, b_gtr, x315, hal, hlen, h300, e1]⟩
  · have e1 : ¬ ((300 : Int) < xs.length) := by omega
    by_cases hw : words < 1 ∨ 1048576 < words
    · have hn := new_no (ext := ext) c.c567 words hw
      refine ⟨[], ?_⟩
      by_cases hw1 : words < 1
      · simp -implicitDefEqProofs [-intBin, b_gtr, b_neq, b_lss, x315, hal, hlen, h300, e1, hn, hw1]
      · have hw2 := hw.resolve_left hw1
        simp -implicitDefEqProofs [-intBin, b_gtr, b_neq, b_lss, x315, hal, hlen, h300, e1, hn, hw1, hw2]
    · obtain ⟨N, rfl⟩ : ∃ N : Nat, words = N := ⟨words.toNat, by omega⟩
      have hn := new_ok (ext := ext) c.c567 N (by omega) (by omega)
      have hi := HI.new N (by omega) (by omega)
      have hW : (List.replicate N 0).length = N := by simp
      generalize List.replicate N 0 = W at *
      generalize List.replicate (N / 64 + 1) 0 = B at *
      obtain ⟨x, s', g1, _, rfl, W', B', e, i, hi', hl, rfl⟩ := ap_loop (ext := ext) c N hr hi ⟨0, apEnv N iv 0, hMem W B 0⟩ (by simp -implicitDefEqProofs [])
      have hbl : B'.length = B.length := by rw [hi'.bl, hi.bl, hl]
      have hpl := places_spec (ext := ext) c.small c.c173 c.c179 c.c180 c.yld c.tz hi'
      have hu := used_spec (ext := ext) c.c176 W' B' e
      have hws := words_spec (ext := ext) c.c177 W' B' e
      have htop := hi'.top
      rw [hl, hW] at htop hws
      simp only [hMem, hl, hbl, hW, apEnv, Int.natCast_zero] at hn g1 hpl hu hws
      obtain ⟨l, hl2⟩ : ∃ l, placesTo B' e = l := ⟨_, rfl⟩
      rw [hl2] at hpl
      have e2 : (e : Int) ≤ N := by omega
      match l, hl2 with
      | [], hl2 =>
        have g2 := ap2_nil (code := code) (ext := ext) N W' B' e
        simp only [hMem, plMem, hl, hbl, hW, apEnv2, Int.natCast_zero, List.cons_append, List.nil_append] at g2
        refine ⟨[], ?_⟩
        simp -implicitDefEqProofs [-intBin, b_gtr, b_neq, b_lss, b_leq, b_eql, x315, hal, hlen, h300, e1, e2, hn, g1, g2, hpl, hu, hws, plVal]
      | [y], hl2 =>
        obtain ⟨x, s', g2, _, rfl, en, j, hen, rfl⟩ := ap2_loop (ext := ext) c N hi' hl2 ⟨0, apEnv2 N (.osl 3 0 1 1 none) 0 0, hMem W' B' e ++ [plObj [y]]⟩ (by simp -implicitDefEqProofs [plObj])
        have e3 : (en : Int) ≤ e := by omega
        simp only [hMem, plMem, plObj, hl, hbl, hW, apEnv2, Int.natCast_zero, List.cons_append, List.nil_append, List.length_cons, List.length_nil, Nat.zero_add] at g2
        refine ⟨[], ?_⟩
        simp -implicitDefEqProofs [-intBin, b_gtr, b_neq, b_lss, b_leq, b_eql, x315, hal, hlen, h300, e1, e2, e3, hn, g1, g2, hpl, hu, hws, plVal]
      | a :: b :: r, hl2 =>
        have q : plVal (a :: b :: r) 3 = (.osl 3 0 1 (a :: b :: r).length none, [.rich (pcells (a :: b :: r))]) := rfl
        have q2 : plObj (a :: b :: r) = .rich (pcells (a :: b :: r)) := rfl
        rw [q] at hpl
        generalize a :: b :: r = l at *
        have p2 := pcells_refs
        have p3 := pcells_ren
        obtain ⟨x, s', g2, _, rfl, en, j, hen, rfl⟩ := ap2_loop (ext := ext) c N hi' hl2 ⟨0, apEnv2 N (.osl 3 0 1 l.length none) 0 0, hMem W' B' e ++ [plObj l]⟩ (by rw [q2]; simp -implicitDefEqProofs [p2, p3])
        have e3 : (en : Int) ≤ e := by omega
        rw [q2] at g2
        simp only [hMem, plMem, hl, hbl, hW, apEnv2, Int.natCast_zero, List.cons_append, List.nil_append] at g2
        refine ⟨[], ?_⟩
        simp -implicitDefEqProofs [-intBin, b_gtr, b_neq, b_lss, b_leq, b_eql, x315, hal, hlen, h300, e1, e2, e3, hn, g1, g2, hpl, hu, hws, p2, p3]
end
end Go.EX

