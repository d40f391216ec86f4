import Derived.Test.YtfmpeoickjggiaaGreatDoorV9c
set_option linter.unusedVariables false
set_option linter.unusedSimpArgs false
namespace Go.EX
set_option maxRecDepth 100000 in
set_option maxHeartbeats 8000000 in
theorem ref_number {pv : IV} {ps : List Fn} (hp : Reads tFn pv ps) (f : Fn) (pc : Nat) (i : Ins) (hi : f.code.xs[pc]? = some i) :
    run9 543 [.imm pv, fnAV f, int64 pc] [] = some (avb (numOk ps.length f pc i), []) := by
  unfold run9
  rw [callW_fun code9 (extInsert 766) (rfl : code9 543 = some x543)]
  have hlt := (List.getElem?_eq_some_iff.1 hi).1
  have hmem := List.mem_of_getElem? hi
  have hw := f.code.ok.1 i hmem
  have hb := f.code.ok.2.1
  have hop := wfU8.1 hw.1
  have hplen := reads_len hp
  have l3 := reads_len f.caps.ok
  have l4 := reads_len f.consts.ok
  obtain ⟨row, off, cap, hiv, hc, hcut, hget⟩ := reads_pos f.code.ok hi
  simp only [tIns] at hget
  have l5 := reads_len f.code.ok
  rw [hiv] at l5
  have hlti : ((pc : Int) < f.code.xs.length) := by omega
  obtain ⟨op, a⟩ := i
  simp only at hop hget
  simp only [fnAV, hiv]
  by_cases h1 : op = 1
  · subst h1
    by_cases c1 : 0 ≤ a
    · skip
      by_cases c2 : a < f.consts.xs.length
      · skip
        simp -implicitDefEqProofs [x543, hget, hlt, hlti, l3, l4, l5, hplen, numOk, isB, opRow, rowTab, c1, c2]
      · skip
        simp -implicitDefEqProofs [x543, hget, hlt, hlti, l3, l4, l5, hplen, numOk, isB, opRow, rowTab, c1, c2]
    · skip
      simp -implicitDefEqProofs [x543, hget, hlt, hlti, l3, l4, l5, hplen, numOk, isB, opRow, rowTab, c1]
  by_cases h5 : op = 5
  · subst h5
    by_cases c1 : 0 ≤ a
    · skip
      by_cases c2 : a < f.locals
      · skip
        simp -implicitDefEqProofs [x543, hget, hlt, hlti, l3, l4, l5, hplen, numOk, isB, opRow, rowTab, c1, c2]
      · skip
        simp -implicitDefEqProofs [x543, hget, hlt, hlti, l3, l4, l5, hplen, numOk, isB, opRow, rowTab, c1, c2]
    · skip
      simp -implicitDefEqProofs [x543, hget, hlt, hlti, l3, l4, l5, hplen, numOk, isB, opRow, rowTab, c1]
  by_cases h6 : op = 6
  · subst h6
    by_cases c1 : 0 ≤ a
    · skip
      by_cases c2 : a < f.locals
      · skip
        simp -implicitDefEqProofs [x543, hget, hlt, hlti, l3, l4, l5, hplen, numOk, isB, opRow, rowTab, c1, c2]
      · skip
        simp -implicitDefEqProofs [x543, hget, hlt, hlti, l3, l4, l5, hplen, numOk, isB, opRow, rowTab, c1, c2]
    · skip
      simp -implicitDefEqProofs [x543, hget, hlt, hlti, l3, l4, l5, hplen, numOk, isB, opRow, rowTab, c1]
  by_cases h7 : op = 7
  · subst h7
    by_cases c1 : 0 ≤ a
    · skip
      by_cases c2 : a < f.locals
      · skip
        simp -implicitDefEqProofs [x543, hget, hlt, hlti, l3, l4, l5, hplen, numOk, isB, opRow, rowTab, c1, c2]
      · skip
        simp -implicitDefEqProofs [x543, hget, hlt, hlti, l3, l4, l5, hplen, numOk, isB, opRow, rowTab, c1, c2]
    · skip
      simp -implicitDefEqProofs [x543, hget, hlt, hlti, l3, l4, l5, hplen, numOk, isB, opRow, rowTab, c1]
  by_cases h8 : op = 8
  · subst h8
    by_cases c1 : 0 ≤ a
    · skip
      by_cases c2 : a < f.locals
      · skip
        simp -implicitDefEqProofs [x543, hget, hlt, hlti, l3, l4, l5, hplen, numOk, isB, opRow, rowTab, c1, c2]
      · skip
        simp -implicitDefEqProofs [x543, hget, hlt, hlti, l3, l4, l5, hplen, numOk, isB, opRow, rowTab, c1, c2]
    · skip
      simp -implicitDefEqProofs [x543, hget, hlt, hlti, l3, l4, l5, hplen, numOk, isB, opRow, rowTab, c1]
  by_cases h9 : op = 9
  · subst h9
    by_cases c1 : 0 ≤ a
    · skip
      by_cases c2 : a < f.locals
      · skip
        simp -implicitDefEqProofs [x543, hget, hlt, hlti, l3, l4, l5, hplen, numOk, isB, opRow, rowTab, c1, c2]
      · skip
        simp -implicitDefEqProofs [x543, hget, hlt, hlti, l3, l4, l5, hplen, numOk, isB, opRow, rowTab, c1, c2]
    · skip
      simp -implicitDefEqProofs [x543, hget, hlt, hlti, l3, l4, l5, hplen, numOk, isB, opRow, rowTab, c1]
  by_cases h10 : op = 10
  · subst h10
    by_cases c1 : 0 ≤ a
    · skip
      by_cases c2 : a < f.caps.xs.length
      · skip
        simp -implicitDefEqProofs [x543, hget, hlt, hlti, l3, l4, l5, hplen, numOk, isB, opRow, rowTab, c1, c2]
      · skip
        simp -implicitDefEqProofs [x543, hget, hlt, hlti, l3, l4, l5, hplen, numOk, isB, opRow, rowTab, c1, c2]
    · skip
      simp -implicitDefEqProofs [x543, hget, hlt, hlti, l3, l4, l5, hplen, numOk, isB, opRow, rowTab, c1]
  by_cases h11 : op = 11
  · subst h11
    by_cases c1 : 0 ≤ a
    · skip
      by_cases c2 : a < f.caps.xs.length
      · skip
        simp -implicitDefEqProofs [x543, hget, hlt, hlti, l3, l4, l5, hplen, numOk, isB, opRow, rowTab, c1, c2]
      · skip
        simp -implicitDefEqProofs [x543, hget, hlt, hlti, l3, l4, l5, hplen, numOk, isB, opRow, rowTab, c1, c2]
    · skip
      simp -implicitDefEqProofs [x543, hget, hlt, hlti, l3, l4, l5, hplen, numOk, isB, opRow, rowTab, c1]
  by_cases h14 : op = 14
  · subst h14
    by_cases c1 : 1 ≤ a
    · skip
      by_cases c2 : a ≤ 9
      · skip; have d2 : a < 10 := by omega
        simp -implicitDefEqProofs [x543, hget, hlt, hlti, l3, l4, l5, hplen, numOk, isB, opRow, rowTab, c1, c2, d2]
      · skip; have d2 : ¬ (a < 10) := by omega
        simp -implicitDefEqProofs [x543, hget, hlt, hlti, l3, l4, l5, hplen, numOk, isB, opRow, rowTab, c1, c2, d2]
    · skip
      simp -implicitDefEqProofs [x543, hget, hlt, hlti, l3, l4, l5, hplen, numOk, isB, opRow, rowTab, c1]
  by_cases h19 : op = 19
  · subst h19
    by_cases c1 : (pc : Int) < a
    · skip; have d1 : (pc : Int) + 1 ≤ a := by omega
      by_cases c2 : a < f.code.xs.length
      · skip
        simp -implicitDefEqProofs [x543, hget, hlt, hlti, l3, l4, l5, hplen, numOk, isB, opRow, rowTab, c1, d1, c2]
      · skip
        simp -implicitDefEqProofs [x543, hget, hlt, hlti, l3, l4, l5, hplen, numOk, isB, opRow, rowTab, c1, d1, c2]
    · skip; have d1 : ¬ ((pc : Int) + 1 ≤ a) := by omega
      simp -implicitDefEqProofs [x543, hget, hlt, hlti, l3, l4, l5, hplen, numOk, isB, opRow, rowTab, c1, d1]
  by_cases h20 : op = 20
  · subst h20
    by_cases c1 : (pc : Int) < a
    · skip; have d1 : (pc : Int) + 1 ≤ a := by omega
      by_cases c2 : a < f.code.xs.length
      · skip
        simp -implicitDefEqProofs [x543, hget, hlt, hlti, l3, l4, l5, hplen, numOk, isB, opRow, rowTab, c1, d1, c2]
      · skip
        simp -implicitDefEqProofs [x543, hget, hlt, hlti, l3, l4, l5, hplen, numOk, isB, opRow, rowTab, c1, d1, c2]
    · skip; have d1 : ¬ ((pc : Int) + 1 ≤ a) := by omega
      simp -implicitDefEqProofs [x543, hget, hlt, hlti, l3, l4, l5, hplen, numOk, isB, opRow, rowTab, c1, d1]
  by_cases h21 : op = 21
  · subst h21
    by_cases c1 : 0 ≤ a
    · skip
      by_cases c2 : a ≤ pc
      · skip; have d2 : a < (pc : Int) + 1 := by omega
        simp -implicitDefEqProofs [x543, hget, hlt, hlti, l3, l4, l5, hplen, numOk, isB, opRow, rowTab, c1, c2, d2]
      · skip; have d2 : ¬ (a < (pc : Int) + 1) := by omega
        simp -implicitDefEqProofs [x543, hget, hlt, hlti, l3, l4, l5, hplen, numOk, isB, opRow, rowTab, c1, c2, d2]
    · skip
      simp -implicitDefEqProofs [x543, hget, hlt, hlti, l3, l4, l5, hplen, numOk, isB, opRow, rowTab, c1]
  by_cases h22 : op = 22
  · subst h22
    by_cases c1 : 0 ≤ a
    · skip
      by_cases c2 : a ≤ 256
      · skip; have d2 : a < 257 := by omega
        simp -implicitDefEqProofs [x543, hget, hlt, hlti, l3, l4, l5, hplen, numOk, isB, opRow, rowTab, c1, c2, d2]
      · skip; have d2 : ¬ (a < 257) := by omega
        simp -implicitDefEqProofs [x543, hget, hlt, hlti, l3, l4, l5, hplen, numOk, isB, opRow, rowTab, c1, c2, d2]
    · skip
      simp -implicitDefEqProofs [x543, hget, hlt, hlti, l3, l4, l5, hplen, numOk, isB, opRow, rowTab, c1]
  by_cases h23 : op = 23
  · subst h23
    by_cases c1 : 0 ≤ a
    · skip
      by_cases c2 : a ≤ 256
      · skip; have d2 : a < 257 := by omega
        simp -implicitDefEqProofs [x543, hget, hlt, hlti, l3, l4, l5, hplen, numOk, isB, opRow, rowTab, c1, c2, d2]
      · skip; have d2 : ¬ (a < 257) := by omega
        simp -implicitDefEqProofs [x543, hget, hlt, hlti, l3, l4, l5, hplen, numOk, isB, opRow, rowTab, c1, c2, d2]
    · skip
      simp -implicitDefEqProofs [x543, hget, hlt, hlti, l3, l4, l5, hplen, numOk, isB, opRow, rowTab, c1]
  by_cases h26 : op = 26
  · subst h26
    by_cases c1 : 1 ≤ a
    · skip
      by_cases c2 : a < ps.length
      · skip
        simp -implicitDefEqProofs [x543, hget, hlt, hlti, l3, l4, l5, hplen, numOk, isB, opRow, rowTab, c1, c2]
      · skip
        simp -implicitDefEqProofs [x543, hget, hlt, hlti, l3, l4, l5, hplen, numOk, isB, opRow, rowTab, c1, c2]
    · skip
      simp -implicitDefEqProofs [x543, hget, hlt, hlti, l3, l4, l5, hplen, numOk, isB, opRow, rowTab, c1]
  by_cases h27 : op = 27
  · subst h27
    by_cases c1 : 0 ≤ a
    · skip
      by_cases c2 : a ≤ 256
      · skip; have d2 : a < 257 := by omega
        simp -implicitDefEqProofs [x543, hget, hlt, hlti, l3, l4, l5, hplen, numOk, isB, opRow, rowTab, c1, c2, d2]
      · skip; have d2 : ¬ (a < 257) := by omega
        simp -implicitDefEqProofs [x543, hget, hlt, hlti, l3, l4, l5, hplen, numOk, isB, opRow, rowTab, c1, c2, d2]
    · skip
      simp -implicitDefEqProofs [x543, hget, hlt, hlti, l3, l4, l5, hplen, numOk, isB, opRow, rowTab, c1]
  have hnum : numOk ps.length f pc ⟨op, a⟩ = (decide (0 < op) && decide (op ≤ 30) && decide (a = 0)) := by
    by_cases hr : 0 < op ∧ op ≤ 30
    · obtain ⟨k, rfl⟩ : ∃ k : Nat, op = k := ⟨op.toNat, by omega⟩
      have hk : k = 2 ∨ k = 3 ∨ k = 4 ∨ k = 12 ∨ k = 13 ∨ k = 15 ∨ k = 16 ∨ k = 17 ∨ k = 18 ∨ k = 24 ∨ k = 25 ∨ k = 28 ∨ k = 29 ∨ k = 30 := by omega
      rcases hk with rfl | rfl | rfl | rfl | rfl | rfl | rfl | rfl | rfl | rfl | rfl | rfl | rfl | rfl <;> simp [numOk, isB, opRow, rowTab]
    · have e1 : isB op 1 31 = false := by simp [isB]; omega
      have e2 : (decide (0 < op) && decide (op ≤ 30)) = false := by simp; omega
      simp only [numOk, e1, e2, Bool.false_and]
  rw [hnum]
  by_cases c1 : 0 < op
  · by_cases c2 : op ≤ 30
    · by_cases c3 : a = 0
      · simp -implicitDefEqProofs [x543, hget, hlt, hlti, l3, l4, l5, hplen, h1, h5, h6, h7, h8, h9, h10, h11, h14, h19, h20, h21, h22, h23, h26, h27, c1, c2, c3]
      · simp -implicitDefEqProofs [x543, hget, hlt, hlti, l3, l4, l5, hplen, h1, h5, h6, h7, h8, h9, h10, h11, h14, h19, h20, h21, h22, h23, h26, h27, c1, c2, c3]
    · simp -implicitDefEqProofs [x543, hget, hlt, hlti, l3, l4, l5, hplen, h1, h5, h6, h7, h8, h9, h10, h11, h14, h19, h20, h21, h22, h23, h26, h27, c1, c2]
  · simp -implicitDefEqProofs [x543, hget, hlt, hlti, l3, l4, l5, hplen, h1, h5, h6, h7, h8, h9, h10, h11, h14, h19, h20, h21, h22, h23, h26, h27, c1]
end Go.EX

