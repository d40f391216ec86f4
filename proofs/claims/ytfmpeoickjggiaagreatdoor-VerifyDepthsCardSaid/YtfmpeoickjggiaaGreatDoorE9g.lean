import Derived.Test.YtfmpeoickjggiaaGreatDoorE9a
import Derived.Test.YtfmpeoickjggiaaGreatDoorV9e
set_option maxRecDepth 100000
set_option maxHeartbeats 8000000
set_option linter.unusedVariables false
set_option linter.unusedSimpArgs false
namespace Go.EX
theorem rh_consts (f : Fn) : ∃ e s', den code9 (extInsert 766) (.loop [2, 5, 6] x542L1) ⟨0, [(2, .optr 0 0), (5, int64 f.code.xs.length), (6, int64 0)], [.rich (fnCells f)]⟩ = some (e, s') ∧ e ≠ .normal ∧
    ((e = .exit 0 ∧ (f.consts.xs.any fun x => !constOk x) = false ∧ s' = ⟨0, [(2, .optr 0 0), (5, int64 f.code.xs.length), (6, int64 f.consts.xs.length), (83, avb false)], [.rich (fnCells f)]⟩) ∨
     (e = .ret ∧ (f.consts.xs.any fun x => !constOk x) = true ∧ ∃ mem, s' = ⟨0, [(4, avb false)], mem⟩)) := by
  have lg := reads_len f.consts.ok
  have hb := f.consts.ok.2.1
  refine loop_rule (fun n s => ∃ i, i + n = f.consts.xs.length ∧ ((f.consts.xs.take i).any fun x => !constOk x) = false ∧ s.tidy [2, 5, 6] = ⟨0, [(2, .optr 0 0), (5, int64 f.code.xs.length), (6, int64 (i : Nat))], [.rich (fnCells f)]⟩) _ ?_ f.consts.xs.length _ ⟨0, by simp, by simp, by simp -implicitDefEqProofs [fnCells]⟩
  rintro n s ⟨i, hi, hall, hst⟩
  rw [hst]
  by_cases hlt : i < f.consts.xs.length
  · have hlt' : (i : Int) < f.consts.xs.length := by omega
    obtain ⟨row, off, cap, hiv, _, _, hget⟩ := reads_pos f.consts.ok (List.getElem?_eq_getElem hlt)
    have e1 : IntKind.wrap .i64 ((i : Int) + 1) = (i : Int) + 1 := wrapI64 (by omega) (by omega)
    have htk : f.consts.xs.take (i + 1) = f.consts.xs.take i ++ [f.consts.xs[i]] := by rw [List.take_add_one, List.getElem?_eq_getElem hlt]; rfl
    have hmem := List.getElem_mem hlt
    generalize f.consts.xs[i] = c at hget htk hmem
    simp only [tConst] at hget
    have hc := ref_constant c
    unfold run9 at hc
    rw [hiv] at lg
    have hnx : ((f.consts.xs.take (i + 1)).any fun x => !constOk x) = (!constOk c) := by rw [htk, List.any_append, hall]; simp
    cases hck : (!constOk c) with
    | false =>
      refine ⟨.normal, ⟨0, [(2, .optr 0 0), (5, int64 f.code.xs.length), (6, int64 ((i : Int) + 1))], [.rich (fnCells f)] ++ []⟩, ?_, .inl ⟨rfl, n - 1, by omega, i + 1, by omega, by rw [hnx]; exact hck, by simp -implicitDefEqProofs [fnCells]⟩⟩
      simp only [fnCells, hiv]
      have hck2 : constOk c = true := by simpa using hck
      simp -implicitDefEqProofs [x542L1, hlt', hlt, hget, lg, e1, hc, hck2]
    | true =>
      refine ⟨.ret, ⟨0, [(4, avb false)], [.rich (fnCells f)] ++ []⟩, ?_, .inr ⟨by simp, .inr ⟨rfl, List.any_eq_true.2 ⟨c, hmem, hck⟩, _, rfl⟩⟩⟩
      simp only [fnCells, hiv]
      have hck2 : constOk c = false := by simpa using hck
      simp -implicitDefEqProofs [x542L1, hlt', hlt, hget, lg, e1, hc, hck2]
  · have : i = f.consts.xs.length := by omega
    subst this
    refine ⟨.exit 0, ⟨0, [(2, .optr 0 0), (5, int64 f.code.xs.length), (6, int64 f.consts.xs.length), (83, avb false)], [.rich (fnCells f)]⟩, ?_, .inr ⟨by simp, .inl ⟨rfl, by simpa using hall, rfl⟩⟩⟩
    simp -implicitDefEqProofs [x542L1, lg, fnCells]
theorem rh_lines (f : Fn) (hln : f.lines.xs.length = f.code.xs.length) : ∃ e s', den code9 (extInsert 766) (.loop [2, 5, 7] x542L2) ⟨0, [(2, .optr 0 0), (5, int64 f.code.xs.length), (7, int64 0)], [.rich (fnCells f)]⟩ = some (e, s') ∧ e ≠ .normal ∧
    ((e = .exit 2 ∧ (f.lines.xs.any fun x => decide (x < 0)) = false ∧ s' = ⟨0, [(2, .optr 0 0), (5, int64 f.code.xs.length), (7, int64 f.lines.xs.length), (95, avb false)], [.rich (fnCells f)]⟩) ∨
     (e = .ret ∧ (f.lines.xs.any fun x => decide (x < 0)) = true ∧ ∃ mem, s' = ⟨0, [(4, avb false)], mem⟩)) := by
  have lg := reads_len f.lines.ok
  have hb := f.lines.ok.2.1
  have hlc : (f.lines.xs.length : Int) = f.code.xs.length := by omega
  refine loop_rule (fun n s => ∃ i, i + n = f.lines.xs.length ∧ ((f.lines.xs.take i).any fun x => decide (x < 0)) = false ∧ s.tidy [2, 5, 7] = ⟨0, [(2, .optr 0 0), (5, int64 f.code.xs.length), (7, int64 (i : Nat))], [.rich (fnCells f)]⟩) _ ?_ f.lines.xs.length _ ⟨0, by simp, by simp, by simp -implicitDefEqProofs [fnCells]⟩
  rintro n s ⟨i, hi, hall, hst⟩
  rw [hst]
  by_cases hlt : i < f.lines.xs.length
  · have hlt' : (i : Int) < f.lines.xs.length := by omega
    obtain ⟨row, off, cap, hiv, _, _, hget⟩ := reads_pos f.lines.ok (List.getElem?_eq_getElem hlt)
    have e1 : IntKind.wrap .i64 ((i : Int) + 1) = (i : Int) + 1 := wrapI64 (by omega) (by omega)
    have htk : f.lines.xs.take (i + 1) = f.lines.xs.take i ++ [f.lines.xs[i]] := by rw [List.take_add_one, List.getElem?_eq_getElem hlt]; rfl
    have hmem := List.getElem_mem hlt
    generalize f.lines.xs[i] = c at hget htk hmem
    simp only [tInt, Nat.mul_one] at hget
    replace hget := cut_one hget
    have hlt2 : (i : Int) < f.code.xs.length := by omega
    rw [hiv] at lg
    have hnx : ((f.lines.xs.take (i + 1)).any fun x => decide (x < 0)) = (decide (c < 0)) := by rw [htk, List.any_append, hall]; simp
    cases hck : (decide (c < 0)) with
    | false =>
      refine ⟨.normal, ⟨0, [(2, .optr 0 0), (5, int64 f.code.xs.length), (7, int64 ((i : Int) + 1))], [.rich (fnCells f)] ++ []⟩, ?_, .inl ⟨rfl, n - 1, by omega, i + 1, by omega, by rw [hnx]; exact hck, by simp -implicitDefEqProofs [fnCells]⟩⟩
      simp only [fnCells, hiv]
      have hck2 : ¬ c < 0 := by simpa using hck
      simp -implicitDefEqProofs [x542L2, hlt', hlt2, hlt, hget, lg, e1, hck2]
    | true =>
      refine ⟨.ret, ⟨0, [(4, avb false)], [.rich (fnCells f)] ++ []⟩, ?_, .inr ⟨by simp, .inr ⟨rfl, List.any_eq_true.2 ⟨c, hmem, hck⟩, _, rfl⟩⟩⟩
      simp only [fnCells, hiv]
      have hck2 : c < 0 := by simpa using hck
      simp -implicitDefEqProofs [x542L2, hlt', hlt2, hlt, hget, lg, e1, hck2]
  · have : i = f.lines.xs.length := by omega
    subst this
    refine ⟨.exit 2, ⟨0, [(2, .optr 0 0), (5, int64 f.code.xs.length), (7, int64 f.lines.xs.length), (95, avb false)], [.rich (fnCells f)]⟩, ?_, .inr ⟨by simp, .inl ⟨rfl, by simpa using hall, rfl⟩⟩⟩
    simp -implicitDefEqProofs [x542L2, lg, fnCells, hln]
theorem rh_hands (f : Fn) : ∃ e s', den code9 (extInsert 766) (.loop [2, 5, 8] x542L3) ⟨0, [(2, .optr 0 0), (5, int64 f.code.xs.length), (8, int64 0)], [.rich (fnCells f)]⟩ = some (e, s') ∧ e ≠ .normal ∧
    ((e = .exit 4 ∧ (f.handlers.xs.any fun x => !handOk f.code.xs.length x) = false ∧ s' = ⟨0, [(2, .optr 0 0), (5, int64 f.code.xs.length), (8, int64 f.handlers.xs.length), (108, avb false)], [.rich (fnCells f)]⟩) ∨
     (e = .ret ∧ (f.handlers.xs.any fun x => !handOk f.code.xs.length x) = true ∧ ∃ mem, s' = ⟨0, [(4, avb false)], mem⟩)) := by
  have lg := reads_len f.handlers.ok
  have hb := f.handlers.ok.2.1
  refine loop_rule (fun n s => ∃ i, i + n = f.handlers.xs.length ∧ ((f.handlers.xs.take i).any fun x => !handOk f.code.xs.length x) = false ∧ s.tidy [2, 5, 8] = ⟨0, [(2, .optr 0 0), (5, int64 f.code.xs.length), (8, int64 (i : Nat))], [.rich (fnCells f)]⟩) _ ?_ f.handlers.xs.length _ ⟨0, by simp, by simp, by simp -implicitDefEqProofs [fnCells]⟩
  rintro n s ⟨i, hi, hall, hst⟩
  rw [hst]
  by_cases hlt : i < f.handlers.xs.length
  · have hlt' : (i : Int) < f.handlers.xs.length := by omega
    obtain ⟨row, off, cap, hiv, _, _, hget⟩ := reads_pos f.handlers.ok (List.getElem?_eq_getElem hlt)
    have e1 : IntKind.wrap .i64 ((i : Int) + 1) = (i : Int) + 1 := wrapI64 (by omega) (by omega)
    have htk : f.handlers.xs.take (i + 1) = f.handlers.xs.take i ++ [f.handlers.xs[i]] := by rw [List.take_add_one, List.getElem?_eq_getElem hlt]; rfl
    have hmem := List.getElem_mem hlt
    generalize f.handlers.xs[i] = c at hget htk hmem
    simp only [tHandler] at hget
    rw [hiv] at lg
    have hnx : ((f.handlers.xs.take (i + 1)).any fun x => !handOk f.code.xs.length x) = (!handOk f.code.xs.length c) := by rw [htk, List.any_append, hall]; simp
    cases hck : (!handOk f.code.xs.length c) with
    | false =>
      refine ⟨.normal, ⟨0, [(2, .optr 0 0), (5, int64 f.code.xs.length), (8, int64 ((i : Int) + 1))], [.rich (fnCells f)] ++ [.rich [int64 c.fr, int64 c.to, int64 c.at', int64 c.deep]]⟩, ?_, .inl ⟨rfl, n - 1, by omega, i + 1, by omega, by rw [hnx]; exact hck, by simp -implicitDefEqProofs [fnCells]⟩⟩
      simp only [fnCells, hiv]
      have hck2 : handOk f.code.xs.length c = true := by simpa using hck
      have hok := handOk_at hck2
      have c1 : ¬ c.fr < 0 := by omega
      have c2 : ¬ c.to ≤ c.fr := by omega
      have c3 : ¬ c.at' < c.to := by omega
      have c4 : ¬ (f.code.xs.length : Int) ≤ c.at' := by omega
      have c5 : ¬ c.deep < 0 := by omega
      have c6 : ¬ 256 ≤ c.deep := by omega
      simp -implicitDefEqProofs [x542L3, hlt', hlt, hget, lg, e1, c1, c2, c3, c4, c5, c6]
    | true =>
      refine ⟨.ret, ⟨0, [(4, avb false)], [.rich (fnCells f)] ++ [.rich [int64 c.fr, int64 c.to, int64 c.at', int64 c.deep]]⟩, ?_, .inr ⟨by simp, .inr ⟨rfl, List.any_eq_true.2 ⟨c, hmem, hck⟩, _, rfl⟩⟩⟩
      simp only [fnCells, hiv]
      have hck2 : handOk f.code.xs.length c = false := by simpa using hck
      by_cases c1 : c.fr < 0
      · simp -implicitDefEqProofs [x542L3, hlt', hlt, hget, lg, e1, c1]
      · by_cases c2 : c.to ≤ c.fr
        · simp -implicitDefEqProofs [x542L3, hlt', hlt, hget, lg, e1, c1, c2]
        · by_cases c3 : c.at' < c.to
          · simp -implicitDefEqProofs [x542L3, hlt', hlt, hget, lg, e1, c1, c2, c3]
          · by_cases c4 : (f.code.xs.length : Int) ≤ c.at'
            · simp -implicitDefEqProofs [x542L3, hlt', hlt, hget, lg, e1, c1, c2, c3, c4]
            · by_cases c5 : c.deep < 0
              · simp -implicitDefEqProofs [x542L3, hlt', hlt, hget, lg, e1, c1, c2, c3, c4, c5]
              · by_cases c6 : 256 ≤ c.deep
                · simp -implicitDefEqProofs [x542L3, hlt', hlt, hget, lg, e1, c1, c2, c3, c4, c5, c6]
                · exfalso
                  simp only [handOk, isB, Bool.and_eq_false_iff, decide_eq_false_iff_not] at hck2
                  omega
  · have : i = f.handlers.xs.length := by omega
    subst this
    refine ⟨.exit 4, ⟨0, [(2, .optr 0 0), (5, int64 f.code.xs.length), (8, int64 f.handlers.xs.length), (108, avb false)], [.rich (fnCells f)]⟩, ?_, .inr ⟨by simp, .inl ⟨rfl, by simpa using hall, rfl⟩⟩⟩
    simp -implicitDefEqProofs [x542L3, lg, fnCells]
end Go.EX

