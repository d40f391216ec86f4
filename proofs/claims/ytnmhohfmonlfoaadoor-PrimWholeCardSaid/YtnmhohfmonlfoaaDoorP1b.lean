import Derived.Test.YtnmhohfmonlfoaaDoorP1
set_option linter.unusedVariables false
set_option linter.unusedSimpArgs false
namespace Go.EX
section
variable {code : Nat → Option XFun} {ext : Calls'}
theorem whole_rest (c : WholeCode code) (op a b k n : Int) (t : ByteArray) (h1 : ¬ 1 = op) (h2 : ¬ 2 = op) (h3 : ¬ 3 = op) (h6 : ¬ 6 = op) (h7 : ¬ 7 = op)
    (hr : (op ≠ 4 ∧ op ≠ 5 ∧ k = 0 ∧ n = 0 ∧ t = kindT) ∨ (op = 4 ∨ op = 5) ∧ b = 0 ∧ k = 0 ∧ n = 0 ∧ t = zeroT ∨ op = 4 ∧ b = -1 ∧ k = 2 ∧ n = IntKind.wrap .i64 (0 - a) ∧ t = .empty ∨ op = 5 ∧ b = -1 ∧ k = 2 ∧ n = 0 ∧ t = .empty
      ∨ op = 4 ∧ b ≠ 0 ∧ b ≠ -1 ∧ k = 2 ∧ n = IntKind.wrap .i64 (a.tdiv b) ∧ t = .empty ∨ op = 5 ∧ b ≠ 0 ∧ b ≠ -1 ∧ k = 2 ∧ n = a.tmod b ∧ t = .empty) :
    callW code ext 579 [i8v op, int64 a, int64 b] [] = some (.tup [aval k n, strv t], []) := by
  have hl := fun s => whole_none (a := a) (b := b) (ext := ext) c h1 h2 h3 h6 h7 s
  have s6 := fun n => whole_of (ext := ext) c n
  rw [callW_fun code ext c.c579]
  unfold x579
  generalize x579L1 = L at *
  simp -implicitDefEqProofs [signs_of c]
  generalize hs : (St.mk 0 _ _) = s
  obtain ⟨s', e1, e2, e3, e4, e5, e6, e7⟩ := hl s ⟨by subst hs; simp -implicitDefEqProofs⟩
  obtain ⟨k', env', mem'⟩ := s'
  simp only at e2 e3 e4 e5 e6 e7
  subst e2 e7
  rcases hr with ⟨h4, h5, rfl, rfl, rfl⟩ | ⟨rfl | rfl, rfl, rfl, rfl, rfl⟩ | ⟨rfl, rfl, rfl, rfl, rfl⟩ | ⟨rfl, rfl, rfl, rfl, rfl⟩ | ⟨rfl, hb, hm, rfl, rfl, rfl⟩ | ⟨rfl, hb, hm, rfl, rfl, rfl⟩
  · simp -implicitDefEqProofs [e1, e3, e4, e5, e6, h4, h5]
  · simp -implicitDefEqProofs [e1, e3, e4, e5, e6]
  · simp -implicitDefEqProofs [e1, e3, e4, e5, e6]
  · simp -implicitDefEqProofs [e1, e3, e4, e5, e6, s6]
  · simp -implicitDefEqProofs [e1, e3, e4, e5, e6, s6]
  · simp -implicitDefEqProofs [e1, e3, e4, e5, e6, s6, hb, hm]
  · simp -implicitDefEqProofs [e1, e3, e4, e5, e6, s6, hb, hm]
theorem whole_spec (c : WholeCode code) (op a b : Int) : callW code ext 579 [i8v op, int64 a, int64 b] [] = some (.tup [aval (wholeR op a b).1 (wholeR op a b).2.1, strv (wholeR op a b).2.2], []) := by
  unfold wholeR
  by_cases h1 : op = 1
  · subst h1; exact whole_sign c 0 (by omega) rfl rfl (sign1 c a b)
  rw [if_neg h1]
  by_cases h2 : op = 2
  · subst h2; exact whole_sign c 1 (by omega) rfl rfl (sign2 c a b)
  rw [if_neg h2]
  by_cases h3 : op = 3
  · subst h3; exact whole_sign c 2 (by omega) rfl rfl (sign3 c a b)
  rw [if_neg h3]
  by_cases h6 : op = 6
  · subst h6; exact whole_sign c 3 (by omega) rfl rfl (sign4 c a b)
  rw [if_neg h6]
  by_cases h7 : op = 7
  · subst h7; exact whole_sign c 4 (by omega) rfl rfl (sign5 c a b)
  rw [if_neg h7]
  refine whole_rest c op a b _ _ _ (fun h => h1 h.symm) (fun h => h2 h.symm) (fun h => h3 h.symm) (fun h => h6 h.symm) (fun h => h7 h.symm) ?_
  by_cases h45 : op ≠ 4 ∧ op ≠ 5
  · rw [if_pos h45]; exact .inl ⟨h45.1, h45.2, rfl, rfl, rfl⟩
  · rw [if_neg h45]
    have h45' : op = 4 ∨ op = 5 := by omega
    by_cases hb : b = 0
    · rw [if_pos hb]; exact .inr (.inl ⟨h45', hb, rfl, rfl, rfl⟩)
    · rw [if_neg hb]
      rcases h45' with rfl | rfl
      · rw [if_pos rfl]
        by_cases hm : b = -1
        · simp [hm]
        · simp [hm, hb]
      · by_cases hm : b = -1
        · simp [hm]
        · simp [hm, hb]
end
end Go.EX

