import Derived.Test.YtfmpeoickjggiaaGreatDoorV9d
set_option linter.unusedVariables false
set_option linter.unusedSimpArgs false
namespace Go.EX
def headOk (fn : Nat) (f : Fn) : Bool :=
  decide ((f.name.size : Int) ≤ 4096) && isB f.params 0 (IntKind.wrap .i64 (f.locals + 1)) && decide (f.locals ≤ 64) && (decide (0 < (fn : Int)) || (decide (f.params = 0) && decide (f.caps.xs.length = 0))) &&
  decide ((f.caps.xs.length : Int) ≤ 4096) && decide ((f.consts.xs.length : Int) ≤ 16384) && decide ((f.handlers.xs.length : Int) ≤ 16384) && isB f.code.xs.length 1 16385 && decide ((f.lines.xs.length : Int) = f.code.xs.length) &&
  !(f.consts.xs.any fun x => !constOk x) && !(f.lines.xs.any fun x => decide (x < 0)) && !(f.handlers.xs.any fun x => !handOk f.code.xs.length x)
attribute [local simp] ck_ren
set_option maxRecDepth 100000 in
set_option maxHeartbeats 8000000 in
theorem head_spec {pv : IV} {ps : List Fn} (hp : Reads tFn pv ps) (ms : List (Int × Int)) (fn : Nat) (f : Fn) (hf : ps[fn]? = some f) :
    run9 251 [.optr 0 0, int64 fn] (ckMem pv ms) = some (avb (headOk fn f), ckMem pv ms) := by
  unfold run9
  rw [callW_fun code9 (extInsert 766) (rfl : code9 251 = some x251)]
  have hltf := (List.getElem?_eq_some_iff.1 hf).1
  have hbf := hp.2.1
  have hlf : (fn : Int) < ps.length := by omega
  have hfn0 : (0 : Int) ≤ (fn : Int) := by omega
  obtain ⟨row, off, cap, rfl, hc, hcut, hget⟩ := reads_pos hp hf
  simp only [tFn] at hget
  have l3 := reads_len f.caps.ok
  have l4 := reads_len f.consts.ok
  have l5 := reads_len f.code.ok
  have l6 := reads_len f.lines.ok
  have l7 := reads_len f.handlers.ok
  have his := fun a b c => is_spec a b c
  have s10 := anyConst_spec f.consts.ok
  have s11 := anyLine_spec f.lines.ok
  have s12 := anyHand_spec (n₀ := f.code.xs.length) f.handlers.ok
  unfold run9 at his s10 s11 s12
  unfold headOk
  simp only [ckMem]
  by_cases h1 : (f.name.size : Int) ≤ 4096
  · skip
    cases h2 : isB f.params 0 (IntKind.wrap .i64 (f.locals + 1)) with
    | false => simp -implicitDefEqProofs [x251, hget, hlf, hfn0, hltf, his, l3, l4, l5, l6, l7, s10, s11, s12, frz_flat, frz.frzC, h1, h2]
    | true =>
      by_cases h3 : f.locals ≤ 64
      · skip
        by_cases h4 : 0 < fn
        · have h4b : (0 : Int) < (fn : Int) := by omega
          by_cases h5 : (f.caps.xs.length : Int) ≤ 4096
          · skip
            by_cases h6 : (f.consts.xs.length : Int) ≤ 16384
            · skip
              by_cases h7 : (f.handlers.xs.length : Int) ≤ 16384
              · skip
                cases h8 : isB f.code.xs.length 1 16385 with
                | false => simp -implicitDefEqProofs [x251, hget, hlf, hfn0, hltf, his, l3, l4, l5, l6, l7, s10, s11, s12, frz_flat, frz.frzC, h1, h2, h3, h4, h4b, h5, h6, h7, h8]
                | true =>
                  by_cases h9 : (f.lines.xs.length : Int) = f.code.xs.length
                  · skip
                    cases h10 : (f.consts.xs.any fun x => !constOk x) with
                    | true => simp -implicitDefEqProofs [x251, hget, hlf, hfn0, hltf, his, l3, l4, l5, l6, l7, s10, s11, s12, frz_flat, frz.frzC, h1, h2, h3, h4, h4b, h5, h6, h7, h8, h9, h10]
                    | false =>
                      cases h11 : (f.lines.xs.any fun x => decide (x < 0)) with
                      | true => simp -implicitDefEqProofs [x251, hget, hlf, hfn0, hltf, his, l3, l4, l5, l6, l7, s10, s11, s12, frz_flat, frz.frzC, h1, h2, h3, h4, h4b, h5, h6, h7, h8, h9, h10, h11]
                      | false =>
                        cases h12 : (f.handlers.xs.any fun x => !handOk f.code.xs.length x) with
                        | true => simp -implicitDefEqProofs [x251, hget, hlf, hfn0, hltf, his, l3, l4, l5, l6, l7, s10, s11, s12, frz_flat, frz.frzC, h1, h2, h3, h4, h4b, h5, h6, h7, h8, h9, h10, h11, h12]
                        | false =>
                          simp -implicitDefEqProofs [x251, hget, hlf, hfn0, hltf, his, l3, l4, l5, l6, l7, s10, s11, s12, frz_flat, frz.frzC, h1, h2, h3, h4, h4b, h5, h6, h7, h8, h9, h10, h11, h12]
                  · simp -implicitDefEqProofs [x251, hget, hlf, hfn0, hltf, his, l3, l4, l5, l6, l7, s10, s11, s12, frz_flat, frz.frzC, h1, h2, h3, h4, h4b, h5, h6, h7, h8, h9]
              · simp -implicitDefEqProofs [x251, hget, hlf, hfn0, hltf, his, l3, l4, l5, l6, l7, s10, s11, s12, frz_flat, frz.frzC, h1, h2, h3, h4, h4b, h5, h6, h7]
            · simp -implicitDefEqProofs [x251, hget, hlf, hfn0, hltf, his, l3, l4, l5, l6, l7, s10, s11, s12, frz_flat, frz.frzC, h1, h2, h3, h4, h4b, h5, h6]
          · simp -implicitDefEqProofs [x251, hget, hlf, hfn0, hltf, his, l3, l4, l5, l6, l7, s10, s11, s12, frz_flat, frz.frzC, h1, h2, h3, h4, h4b, h5]
        · have h4b : ¬ (0 : Int) < (fn : Int) := by omega
          by_cases h4c : f.params = 0
          · rw [h4c] at h2
            by_cases h4d : f.caps.xs.length = 0
            by_cases h5 : (f.caps.xs.length : Int) ≤ 4096
            · skip
              by_cases h6 : (f.consts.xs.length : Int) ≤ 16384
              · skip
                by_cases h7 : (f.handlers.xs.length : Int) ≤ 16384
                · skip
                  cases h8 : isB f.code.xs.length 1 16385 with
                  | false => simp -implicitDefEqProofs [x251, hget, hlf, hfn0, hltf, his, l3, l4, l5, l6, l7, s10, s11, s12, frz_flat, frz.frzC, h1, h2, h3, h4, h4b, h4c, h4d, h5, h6, h7, h8]
                  | true =>
                    by_cases h9 : (f.lines.xs.length : Int) = f.code.xs.length
                    · skip
                      cases h10 : (f.consts.xs.any fun x => !constOk x) with
                      | true => simp -implicitDefEqProofs [x251, hget, hlf, hfn0, hltf, his, l3, l4, l5, l6, l7, s10, s11, s12, frz_flat, frz.frzC, h1, h2, h3, h4, h4b, h4c, h4d, h5, h6, h7, h8, h9, h10]
                      | false =>
                        cases h11 : (f.lines.xs.any fun x => decide (x < 0)) with
                        | true => simp -implicitDefEqProofs [x251, hget, hlf, hfn0, hltf, his, l3, l4, l5, l6, l7, s10, s11, s12, frz_flat, frz.frzC, h1, h2, h3, h4, h4b, h4c, h4d, h5, h6, h7, h8, h9, h10, h11]
                        | false =>
                          cases h12 : (f.handlers.xs.any fun x => !handOk f.code.xs.length x) with
                          | true => simp -implicitDefEqProofs [x251, hget, hlf, hfn0, hltf, his, l3, l4, l5, l6, l7, s10, s11, s12, frz_flat, frz.frzC, h1, h2, h3, h4, h4b, h4c, h4d, h5, h6, h7, h8, h9, h10, h11, h12]
                          | false =>
                            simp -implicitDefEqProofs [x251, hget, hlf, hfn0, hltf, his, l3, l4, l5, l6, l7, s10, s11, s12, frz_flat, frz.frzC, h1, h2, h3, h4, h4b, h4c, h4d, h5, h6, h7, h8, h9, h10, h11, h12]
                    · simp -implicitDefEqProofs [x251, hget, hlf, hfn0, hltf, his, l3, l4, l5, l6, l7, s10, s11, s12, frz_flat, frz.frzC, h1, h2, h3, h4, h4b, h4c, h4d, h5, h6, h7, h8, h9]
                · simp -implicitDefEqProofs [x251, hget, hlf, hfn0, hltf, his, l3, l4, l5, l6, l7, s10, s11, s12, frz_flat, frz.frzC, h1, h2, h3, h4, h4b, h4c, h4d, h5, h6, h7]
              · simp -implicitDefEqProofs [x251, hget, hlf, hfn0, hltf, his, l3, l4, l5, l6, l7, s10, s11, s12, frz_flat, frz.frzC, h1, h2, h3, h4, h4b, h4c, h4d, h5, h6]
            · omega
            · have h4f : ¬ f.caps.xs = [] := fun h => h4d (by rw [h]; rfl)
              simp -implicitDefEqProofs [x251, hget, hlf, hfn0, hltf, his, l3, l4, l5, l6, l7, s10, s11, s12, frz_flat, frz.frzC, h1, h2, h3, h4, h4b, h4c, h4d, h4f]
          · simp -implicitDefEqProofs [x251, hget, hlf, hfn0, hltf, his, l3, l4, l5, l6, l7, s10, s11, s12, frz_flat, frz.frzC, h1, h2, h3, h4, h4b, h4c]
      · simp -implicitDefEqProofs [x251, hget, hlf, hfn0, hltf, his, l3, l4, l5, l6, l7, s10, s11, s12, frz_flat, frz.frzC, h1, h2, h3]
  · simp -implicitDefEqProofs [x251, hget, hlf, hfn0, hltf, his, l3, l4, l5, l6, l7, s10, s11, s12, frz_flat, frz.frzC, h1]
end Go.EX

