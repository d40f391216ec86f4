import Derived.Test.YtfmpeoickjggiaaGreatDoorV9d
import Derived.Test.YtfmpeoickjggiaaGreatDoorV9f
import Derived.Test.YtfmpeoickjggiaaGreatDoorV9m
set_option linter.unusedVariables false
set_option linter.unusedSimpArgs false
namespace Go.EX
theorem ref_constant (c : Const) : run9 539 [constAV c] [] = some (avb (constOk c), []) := by
  unfold run9
  rw [callW_fun code9 (extInsert 766) (rfl : code9 539 = some x539)]
  unfold constOk
  by_cases h1 : c.k = 2
  · have h3 : ¬ c.k = 3 := by omega
    by_cases h2 : c.s = .empty <;> simp -implicitDefEqProofs [x539, h1, h2, h3]
  · by_cases h3 : c.k = 3
    · by_cases h4 : c.n = 0
      · by_cases h5 : (c.s.size : Int) ≤ 4096 <;> simp -implicitDefEqProofs [x539, h1, h3, h4, h5]
      · simp -implicitDefEqProofs [x539, h1, h3, h4]
    · simp -implicitDefEqProofs [x539, h1, h3]
theorem ref_ends (op : Int) : run9 541 [.imm (.val (.int .u8 op))] [] = some (avb (!(decide (op ≠ 28) && decide (op ≠ 29) && decide (op ≠ 21))), []) := by
  unfold run9
  rw [callW_fun code9 (extInsert 766) (rfl : code9 541 = some x541)]
  by_cases h1 : op = 28
  · simp -implicitDefEqProofs [x541, h1]
  · by_cases h2 : op = 29
    · simp -implicitDefEqProofs [x541, h1, h2]
    · by_cases h3 : op = 21 <;> simp -implicitDefEqProofs [x541, h1, h2, h3]
set_option maxRecDepth 100000 in
theorem ref_caps (f g : Fn) : run9 537 [fnAV f, fnAV g] [] = some (avb (capsAll f g), []) := by
  have l3 := reads_len f.caps.ok
  have lg := reads_len g.caps.ok
  have hb := g.caps.ok.2.1
  have hnl : True := trivial
  have loop : ∃ e s', den code9 (extInsert 766) (.loop [2, 3, 5] x537L1) ⟨0, [(2, .optr 0 0), (3, .optr 1 0), (5, int64 0)], [.rich (fnCells f), .rich (fnCells g)]⟩ = some (e, s') ∧ e ≠ .normal ∧
      ((e = .exit 0 ∧ (∀ c ∈ g.caps.xs, capOk f.caps.xs.length f.locals c = true) ∧ s' = ⟨0, [(2, .optr 0 0), (3, .optr 1 0), (5, int64 g.caps.xs.length), (11, avb false)], [.rich (fnCells f), .rich (fnCells g)]⟩) ∨
       (e = .ret ∧ (∃ c ∈ g.caps.xs, capOk f.caps.xs.length f.locals c = false) ∧ ∃ mem, s' = ⟨0, [(4, avb false)], mem⟩)) := by
    refine loop_rule (fun n s => ∃ i, i + n = g.caps.xs.length ∧ (∀ c ∈ g.caps.xs.take i, capOk f.caps.xs.length f.locals c = true) ∧ s.tidy [2, 3, 5] = ⟨0, [(2, .optr 0 0), (3, .optr 1 0), (5, int64 (i : Nat))], [.rich (fnCells f), .rich (fnCells g)]⟩) _ ?_ g.caps.xs.length _ ⟨0, by simp, by simp, by simp -implicitDefEqProofs []⟩
    rintro n s ⟨i, hi, hall, hst⟩
    rw [hst]
    by_cases hlt : i < g.caps.xs.length
    · have hlt' : (i : Int) < g.caps.xs.length := by omega
      obtain ⟨row, off, cap, hiv, _, _, hget⟩ := reads_pos g.caps.ok (List.getElem?_eq_getElem hlt)
      have e1 : IntKind.wrap .i64 ((i : Int) + 1) = (i : Int) + 1 := wrapI64 (by omega) (by omega)
      have htk : g.caps.xs.take (i + 1) = g.caps.xs.take i ++ [g.caps.xs[i]] := by rw [List.take_add_one, List.getElem?_eq_getElem hlt]; rfl
      have hmem := List.getElem_mem hlt
      generalize g.caps.xs[i] = c at hget htk hmem
      simp only [tCap] at hget
      rw [hiv] at lg
      have fin : ∀ (b : Bool), capOk f.caps.xs.length f.locals c = b → den code9 (extInsert 766) x537L1 ⟨0, [(2, .optr 0 0), (3, .optr 1 0), (5, int64 (i : Nat))], [.rich (fnCells f), .rich (fnCells g)]⟩ =
          if b then some (.normal, ⟨0, [(2, .optr 0 0), (3, .optr 1 0), (5, int64 ((i : Int) + 1))], [.rich (fnCells f), .rich (fnCells g), .rich [avb c.up, int64 c.n]]⟩) else some (.ret, ⟨0, [(4, avb false)], [.rich (fnCells f), .rich (fnCells g), .rich [avb c.up, int64 c.n]]⟩) := by
        rintro b rfl
        simp only [fnCells, hiv]
        obtain ⟨up, m⟩ := c
        simp only at hget ⊢
        generalize f.caps.xs.length = nc at *
        generalize f.locals = nl at *
        by_cases c1 : m < 0
        · have c1' : ¬ 0 ≤ m := by omega
          cases up <;> simp -implicitDefEqProofs [x537L1, hlt', hlt, hget, lg, l3, e1, capOk, isB, c1, c1']
        · have c1' : 0 ≤ m := by omega
          cases up with
          | true =>
            by_cases c2 : (nc : Int) ≤ m
            · have c2' : ¬ m < nc := by omega
              simp -implicitDefEqProofs [x537L1, hlt', hlt, hget, lg, l3, e1, capOk, isB, c1, c1', c2, c2']
            · have c2' : m < nc := by omega
              simp -implicitDefEqProofs [x537L1, hlt', hlt, hget, lg, l3, e1, capOk, isB, c1, c1', c2, c2']
          | false =>
            by_cases c2 : nl ≤ m
            · have c2' : ¬ m < nl := by omega
              simp -implicitDefEqProofs [x537L1, hlt', hlt, hget, lg, l3, e1, capOk, isB, c1, c1', c2, c2']
            · have c2' : m < nl := by omega
              simp -implicitDefEqProofs [x537L1, hlt', hlt, hget, lg, l3, e1, capOk, isB, c1, c1', c2, c2']
      cases hck : capOk f.caps.xs.length f.locals c with
      | true =>
        refine ⟨_, _, fin true hck, .inl ⟨rfl, n - 1, by omega, i + 1, by omega, fun x hx => ?_, ?_⟩⟩
        · rw [htk, List.mem_append, List.mem_singleton] at hx
          rcases hx with hx | rfl
          · exact hall x hx
          · exact hck
        · simp -implicitDefEqProofs [fnCells]
      | false => exact ⟨_, _, fin false hck, .inr ⟨by simp, .inr ⟨rfl, ⟨c, hmem, hck⟩, _, rfl⟩⟩⟩
    · have : i = g.caps.xs.length := by omega
      subst this
      refine ⟨.exit 0, ⟨0, [(2, .optr 0 0), (3, .optr 1 0), (5, int64 g.caps.xs.length), (11, avb false)], [.rich (fnCells f), .rich (fnCells g)]⟩, ?_, .inr ⟨by simp, .inl ⟨rfl, by simpa using hall, rfl⟩⟩⟩
      simp -implicitDefEqProofs [x537L1, lg, fnCells]
  obtain ⟨e, s', h1, _, h2⟩ := loop
  unfold run9
  rw [callW_fun code9 (extInsert 766) (rfl : code9 537 = some x537)]
  simp only [fnCells] at h1
  rcases h2 with ⟨rfl, hall, rfl⟩ | ⟨rfl, ⟨c, hm, hc⟩, mem, rfl⟩
  · have : capsAll f g = true := by
      simp only [capsAll, Bool.not_eq_true', List.any_eq_false]
      intro x hx; simp [hall x hx]
    rw [this]
    simp -implicitDefEqProofs [x537, h1]
  · have : capsAll f g = false := by
      simp only [capsAll, Bool.not_eq_false', List.any_eq_true]
      exact ⟨c, hm, by simp [hc]⟩
    rw [this]
    cases mem <;> simp -implicitDefEqProofs [x537, h1]
end Go.EX

