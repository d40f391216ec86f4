import Derived.Test.YtfmpeoickjggiaaGreatDoorE9g
set_option linter.unusedVariables false
set_option linter.unusedSimpArgs false
namespace Go.EX
set_option maxRecDepth 100000 in
set_option maxHeartbeats 8000000 in
theorem ref_head (f : Fn) (hw : tFn.wf f) (fn : Nat) : run9 542 [fnAV f, avb (decide (fn = 0))] [] = some (avb (headOk fn f), []) := by
  have hwp := wfI64.1 hw.2.1
  have hwl := wfI64.1 hw.2.2
  have l3 := reads_len f.caps.ok
  have l4 := reads_len f.consts.ok
  have l5 := reads_len f.code.ok
  have l6 := reads_len f.lines.ok
  have l7 := reads_len f.handlers.ok
  have hL1 := rh_consts f
  have hL2 := rh_lines f
  have hL3 := rh_hands f
  simp only [fnCells] at hL1 hL2 hL3
  unfold run9
  rw [callW_fun code9 (extInsert 766) (rfl : code9 542 = some x542)]
  by_cases c1 : 4096 < (f.name.size : Int)
  · have hz : headOk fn f = false := by
      have h : ¬ (f.name.size : Int) ≤ 4096 := by omega
      simp [headOk, h]
    rw [hz]
    simp -implicitDefEqProofs [x542, l3, l4, l5, l6, l7, c1]
  · skip
    by_cases c2 : f.params < 0
    · have hz : headOk fn f = false := by
        have h : isB f.params 0 (IntKind.wrap .i64 (f.locals + 1)) = false := by simp [isB]; omega
        simp [headOk, h]
      rw [hz]
      simp -implicitDefEqProofs [x542, l3, l4, l5, l6, l7, c1, c2]
    · skip
      by_cases c3 : f.locals < f.params
      · have hz : headOk fn f = false := by
          have e : IntKind.wrap .i64 (f.locals + 1) = f.locals + 1 := wrapI64 (by omega) (by omega)
          have h : isB f.params 0 (IntKind.wrap .i64 (f.locals + 1)) = false := by rw [e]; simp [isB]; omega
          simp [headOk, h]
        rw [hz]
        simp -implicitDefEqProofs [x542, l3, l4, l5, l6, l7, c1, c2, c3]
      · skip
        by_cases c4 : 64 < f.locals
        · have hz : headOk fn f = false := by
            have h : ¬ f.locals ≤ 64 := by omega
            simp [headOk, h]
          rw [hz]
          simp -implicitDefEqProofs [x542, l3, l4, l5, l6, l7, c1, c2, c3, c4]
        · skip
          have e0 : IntKind.wrap .i64 (f.locals + 1) = f.locals + 1 := wrapI64 (by omega) (by omega)
          have g2 : isB f.params 0 (f.locals + 1) = true := by simp [isB]; omega
          by_cases hm : fn = 0
          · have gm : decide (0 < (fn : Int)) = false := by simp [hm]
            have hmd : decide (fn = 0) = true := by simp [hm]
            rw [hmd]
            by_cases c5 : 0 < f.params
            · have hz : headOk fn f = false := by
                have h : ¬ f.params = 0 := by omega
                simp [headOk, hm, h]
              rw [hz]
              simp -implicitDefEqProofs [x542, l3, l4, l5, l6, l7, c1, c2, c3, c4, c5]
            · skip
              by_cases c6 : 0 < f.caps.xs.length
              · have hz : headOk fn f = false := by
                  have h : ¬ f.caps.xs.length = 0 := by omega
                  simp [headOk, hm, h]
                rw [hz]
                simp -implicitDefEqProofs [x542, l3, l4, l5, l6, l7, c1, c2, c3, c4, c5, c6]
              · skip
                have gmain : (decide (0 < (fn : Int)) || (decide (f.params = 0) && decide (f.caps.xs.length = 0))) = true := by
                  have a : f.params = 0 := by omega
                  have b : f.caps.xs.length = 0 := by omega
                  simp [a, b]
                by_cases c7 : 4096 < (f.caps.xs.length : Int)
                · have hz : headOk fn f = false := by
                    have h : ¬ (f.caps.xs.length : Int) ≤ 4096 := by omega
                    simp [headOk, h]
                  rw [hz]
                  simp -implicitDefEqProofs [x542, l3, l4, l5, l6, l7, c1, c2, c3, c4, c5, c6, c7]
                · skip
                  by_cases c8 : 16384 < (f.consts.xs.length : Int)
                  · have hz : headOk fn f = false := by
                      have h : ¬ (f.consts.xs.length : Int) ≤ 16384 := by omega
                      simp [headOk, h]
                    rw [hz]
                    simp -implicitDefEqProofs [x542, l3, l4, l5, l6, l7, c1, c2, c3, c4, c5, c6, c7, c8]
                  · skip
                    by_cases c9 : 16384 < (f.handlers.xs.length : Int)
                    · have hz : headOk fn f = false := by
                        have h : ¬ (f.handlers.xs.length : Int) ≤ 16384 := by omega
                        simp [headOk, h]
                      rw [hz]
                      simp -implicitDefEqProofs [x542, l3, l4, l5, l6, l7, c1, c2, c3, c4, c5, c6, c7, c8, c9]
                    · skip
                      by_cases c10 : (f.code.xs.length : Int) < 1
                      · have hz : headOk fn f = false := by
                          have h : isB f.code.xs.length 1 16385 = false := by simp [isB]; omega
                          simp [headOk, h]
                        rw [hz]
                        simp -implicitDefEqProofs [x542, l3, l4, l5, l6, l7, c1, c2, c3, c4, c5, c6, c7, c8, c9, c10]
                      · skip
                        by_cases c11 : 16384 < (f.code.xs.length : Int)
                        · have hz : headOk fn f = false := by
                            have h : isB f.code.xs.length 1 16385 = false := by simp [isB]; omega
                            simp [headOk, h]
                          rw [hz]
                          simp -implicitDefEqProofs [x542, l3, l4, l5, l6, l7, c1, c2, c3, c4, c5, c6, c7, c8, c9, c10, c11]
                        · skip
                          by_cases c12 : (f.lines.xs.length : Int) = f.code.xs.length
                          rotate_left
                          · have hz : headOk fn f = false := by
                              simp [headOk, c12]
                            rw [hz]
                            simp -implicitDefEqProofs [x542, l3, l4, l5, l6, l7, c1, c2, c3, c4, c5, c6, c7, c8, c9, c10, c11, c12]
                          have g1 : (f.name.size : Int) ≤ 4096 := by omega
                          have g4 : f.locals ≤ 64 := by omega
                          have g7 : (f.caps.xs.length : Int) ≤ 4096 := by omega
                          have g8 : (f.consts.xs.length : Int) ≤ 16384 := by omega
                          have g9 : (f.handlers.xs.length : Int) ≤ 16384 := by omega
                          have g10 : isB f.code.xs.length 1 16385 = true := by simp [isB]; omega
                          have hz : headOk fn f = (!(f.consts.xs.any fun x => !constOk x) && !(f.lines.xs.any fun x => decide (x < 0)) && !(f.handlers.xs.any fun x => !handOk f.code.xs.length x)) := by
                            unfold headOk
                            rw [e0, g2, decide_eq_true g1, decide_eq_true g4, gmain, decide_eq_true g7, decide_eq_true g8, decide_eq_true g9, g10, decide_eq_true c12]
                            simp only [Bool.true_and]
                          rw [hz]
                          obtain ⟨e, s1, h1, _, ⟨rfl, a1, rfl⟩ | ⟨rfl, a1, mem, rfl⟩⟩ := hL1
                          rotate_left
                          · rw [a1]; cases mem <;> simp -implicitDefEqProofs [x542, l3, l4, l5, l6, l7, c1, c2, c3, c4, c5, c6, c7, c8, c9, c10, c11, c12, h1]
                          obtain ⟨e, s2, h2, _, ⟨rfl, a2, rfl⟩ | ⟨rfl, a2, mem, rfl⟩⟩ := hL2 (by omega)
                          rotate_left
                          · rw [a1, a2]; cases mem <;> simp -implicitDefEqProofs [x542, l3, l4, l5, l6, l7, c1, c2, c3, c4, c5, c6, c7, c8, c9, c10, c11, c12, h1, h2]
                          obtain ⟨e, s3, h3, _, ⟨rfl, a3, rfl⟩ | ⟨rfl, a3, mem, rfl⟩⟩ := hL3
                          rotate_left
                          · rw [a1, a2, a3]; cases mem <;> simp -implicitDefEqProofs [x542, l3, l4, l5, l6, l7, c1, c2, c3, c4, c5, c6, c7, c8, c9, c10, c11, c12, h1, h2, h3]
                          rw [a1, a2, a3]
                          simp -implicitDefEqProofs [x542, l3, l4, l5, l6, l7, c1, c2, c3, c4, c5, c6, c7, c8, c9, c10, c11, c12, h1, h2, h3]
          · have hmd : decide (fn = 0) = false := by simp [hm]
            rw [hmd]
            have gmain : (decide (0 < (fn : Int)) || (decide (f.params = 0) && decide (f.caps.xs.length = 0))) = true := by
              have a : 0 < (fn : Int) := by omega
              rw [decide_eq_true a, Bool.true_or]
            by_cases c7 : 4096 < (f.caps.xs.length : Int)
            · have hz : headOk fn f = false := by
                have h : ¬ (f.caps.xs.length : Int) ≤ 4096 := by omega
                simp [headOk, h]
              rw [hz]
              simp -implicitDefEqProofs [x542, l3, l4, l5, l6, l7, c1, c2, c3, c4, c7]
            · skip
              by_cases c8 : 16384 < (f.consts.xs.length : Int)
              · have hz : headOk fn f = false := by
                  have h : ¬ (f.consts.xs.length : Int) ≤ 16384 := by omega
                  simp [headOk, h]
                rw [hz]
                simp -implicitDefEqProofs [x542, l3, l4, l5, l6, l7, c1, c2, c3, c4, c7, c8]
              · skip
                by_cases c9 : 16384 < (f.handlers.xs.length : Int)
                · have hz : headOk fn f = false := by
                    have h : ¬ (f.handlers.xs.length : Int) ≤ 16384 := by omega
                    simp [headOk, h]
                  rw [hz]
                  simp -implicitDefEqProofs [x542, l3, l4, l5, l6, l7, c1, c2, c3, c4, c7, c8, c9]
                · skip
                  by_cases c10 : (f.code.xs.length : Int) < 1
                  · have hz : headOk fn f = false := by
                      have h : isB f.code.xs.length 1 16385 = false := by simp [isB]; omega
                      simp [headOk, h]
                    rw [hz]
                    simp -implicitDefEqProofs [x542, l3, l4, l5, l6, l7, c1, c2, c3, c4, c7, c8, c9, c10]
                  · skip
                    by_cases c11 : 16384 < (f.code.xs.length : Int)
                    · have hz : headOk fn f = false := by
                        have h : isB f.code.xs.length 1 16385 = false := by simp [isB]; omega
                        simp [headOk, h]
                      rw [hz]
                      simp -implicitDefEqProofs [x542, l3, l4, l5, l6, l7, c1, c2, c3, c4, c7, c8, c9, c10, c11]
                    · skip
                      by_cases c12 : (f.lines.xs.length : Int) = f.code.xs.length
                      rotate_left
                      · have hz : headOk fn f = false := by
                          simp [headOk, c12]
                        rw [hz]
                        simp -implicitDefEqProofs [x542, l3, l4, l5, l6, l7, c1, c2, c3, c4, c7, c8, c9, c10, c11, c12]
                      have g1 : (f.name.size : Int) ≤ 4096 := by omega
                      have g4 : f.locals ≤ 64 := by omega
                      have g7 : (f.caps.xs.length : Int) ≤ 4096 := by omega
                      have g8 : (f.consts.xs.length : Int) ≤ 16384 := by omega
                      have g9 : (f.handlers.xs.length : Int) ≤ 16384 := by omega
                      have g10 : isB f.code.xs.length 1 16385 = true := by simp [isB]; omega
                      have hz : headOk fn f = (!(f.consts.xs.any fun x => !constOk x) && !(f.lines.xs.any fun x => decide (x < 0)) && !(f.handlers.xs.any fun x => !handOk f.code.xs.length x)) := by
                        unfold headOk
                        rw [e0, g2, decide_eq_true g1, decide_eq_true g4, gmain, decide_eq_true g7, decide_eq_true g8, decide_eq_true g9, g10, decide_eq_true c12]
                        simp only [Bool.true_and]
                      rw [hz]
                      obtain ⟨e, s1, h1, _, ⟨rfl, a1, rfl⟩ | ⟨rfl, a1, mem, rfl⟩⟩ := hL1
                      rotate_left
                      · rw [a1]; cases mem <;> simp -implicitDefEqProofs [x542, l3, l4, l5, l6, l7, c1, c2, c3, c4, c7, c8, c9, c10, c11, c12, h1]
                      obtain ⟨e, s2, h2, _, ⟨rfl, a2, rfl⟩ | ⟨rfl, a2, mem, rfl⟩⟩ := hL2 (by omega)
                      rotate_left
                      · rw [a1, a2]; cases mem <;> simp -implicitDefEqProofs [x542, l3, l4, l5, l6, l7, c1, c2, c3, c4, c7, c8, c9, c10, c11, c12, h1, h2]
                      obtain ⟨e, s3, h3, _, ⟨rfl, a3, rfl⟩ | ⟨rfl, a3, mem, rfl⟩⟩ := hL3
                      rotate_left
                      · rw [a1, a2, a3]; cases mem <;> simp -implicitDefEqProofs [x542, l3, l4, l5, l6, l7, c1, c2, c3, c4, c7, c8, c9, c10, c11, c12, h1, h2, h3]
                      rw [a1, a2, a3]
                      simp -implicitDefEqProofs [x542, l3, l4, l5, l6, l7, c1, c2, c3, c4, c7, c8, c9, c10, c11, c12, h1, h2, h3]
end Go.EX

