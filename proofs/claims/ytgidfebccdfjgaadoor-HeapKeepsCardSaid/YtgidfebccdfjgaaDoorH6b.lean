import Derived.Test.YtgidfebccdfjgaaDoorH6
set_option linter.unusedVariables false
set_option linter.unusedSimpArgs false
namespace Go.EX
section
variable {code : Nat → Option XFun} {ext : Calls'}
theorem fg_loop (hy : code yieldNo = none) (ht : KnowsTz code ext) {W B : List Nat} {e lo hi n : Nat} (hn : B.length = n) (hbl : ∀ b ∈ B, b < 18446744073709551616) (hhi : hi ≤ 64 * n) (hbd : n ≤ 1000000) (hlob : lo ≤ 100000000) (hlo : NoBits B hi lo) (s : St) (hs : s.tidy [0, 2, 3, 5] = ⟨8, plEnv lo, fgBase W n B e lo hi⟩) :
    ∃ x s', den code ext (.loop [0, 2, 3, 5] x180L1) s = some (x, s') ∧ x ≠ .normal ∧ ((x = .exit 0 ∨ x = .ret) ∧ ∃ B', Cleared B lo hi B' ∧ ∃ ev, s' = ⟨8, ev, fgBase W n B' e lo hi⟩) := by
  refine loop_rule (fun m s => ∃ a B', (1000000000 < m + a) ∧ a ≤ 100000000 ∧ lo ≤ a ∧ B'.length = n ∧ (∀ b ∈ B', b < 18446744073709551616) ∧ (∀ j, bitAt B' j = (bitAt B j && !(decide (lo ≤ j) && decide (j < a)))) ∧ NoBits B hi a ∧ s.tidy [0, 2, 3, 5] = ⟨8, plEnv a, fgBase W n B' e lo hi⟩) _ ?_ 1000000001 s
    ⟨lo, B, by omega, hlob, by omega, hn, hbl, fun j => by
      have : ¬ (decide (lo ≤ j) && decide (j < lo)) = true := by simp
      simp [this], fun j h1 h2 => hlo j h1 h2, hs⟩
  clear hs s
  rintro m s ⟨a, B1, hm, hab, hlo, hn1, hb1, hbit, hno, hs⟩
  rw [hs]
  have done : ∀ B', (∀ j, bitAt B' j = (bitAt B j && !(decide (lo ≤ j) && decide (j < a)))) → B'.length = n → (∀ b ∈ B', b < 18446744073709551616) → hi ≤ a → NoBits B hi a → Cleared B lo hi B' := by
    intro B' h1 h2 h3 h4 h5
    refine ⟨by rw [h2, hn], h3, fun j => ?_⟩
    rw [h1 j]
    rcases Nat.lt_or_ge j hi with h | h
    · have g1 : j < a := by omega
      simp [h, g1]
    · rcases Nat.lt_or_ge j a with g | g
      · rw [h5 j h g]; rfl
      · have g1 : ¬ j < a := by omega
        have g2 : ¬ j < hi := by omega
        simp [g1, g2]
  rcases Nat.lt_or_ge a hi with h | h
  · obtain ⟨x, s', a', B2, g1, g2, g3, g4, g4a, g4b, g5, g6, g7⟩ := fg_step (code := code) (ext := ext) (W := W) (e := e) (lo := lo) hy ht n hn1 hb1 (by omega) (by omega) a h
    have hbit2 : ∀ j, bitAt B2 j = (bitAt B j && !(decide (lo ≤ j) && decide (j < a'))) := by
      intro j
      rw [g5 j, hbit j]
      by_cases h1 : lo ≤ j ∧ j < a'
      · by_cases h2 : j < a
        · have h3 : ¬ a ≤ j := by omega
          simp [h1.1, h1.2, h2]
        · have h3 : a ≤ j := by omega
          simp [h1.1, h1.2, h2, h3]
      · by_cases h2 : lo ≤ j
        · have h3 : ¬ j < a' := fun h => h1 ⟨h2, h⟩
          have h4 : ¬ j < a := by omega
          simp [h2, h3, h4]
        · have h3 : ¬ a ≤ j := by omega
          simp [h2, h3]
    have hno2 : NoBits B hi a' := by
      intro j h1 h2
      rcases Nat.lt_or_ge j a with g | g
      · exact hno j h1 g
      · have := g6 j h1 h2
        rw [hbit j] at this
        have g' : ¬ j < a := by omega
        simpa [g'] using this
    rcases g7 with ⟨rfl, rfl⟩ | ⟨rfl, g7, ev, rfl⟩
    · have g4 : a < a' := g4.resolve_right (by simp)
      exact ⟨.normal, _, g1, .inl ⟨rfl, m - (a' - a), by omega, a', B2, by omega, by omega, by omega, by omega, g3, hbit2, hno2, by simp -implicitDefEqProofs []⟩⟩
    · refine ⟨.ret, _, g1, .inr ⟨by simp, .inr rfl, B2, ?_, ev, rfl⟩⟩
      refine ⟨by omega, g3, fun j => ?_⟩
      rw [hbit2 j]
      rcases Nat.lt_or_ge j hi with h | h
      · have g1 : j < a' := by omega
        simp [h, g1]
      · rcases Nat.lt_or_ge j a' with g | g
        · rw [hno2 j h g]; rfl
        · have g1 : ¬ j < a' := by omega
          have g2 : ¬ j < hi := by omega
          simp [g1, g2]
  · have e1 : ¬ ((a : Int) < hi) := by omega
    have e2 : ¬ (a < hi) := by omega
    refine ⟨.exit 0, ⟨8, plEnv a ++ [(10, avb false)], fgBase W n B1 e lo hi⟩, ?_, .inr ⟨by simp, .inl rfl, B1, done B1 hbit hn1 hb1 h hno, _, rfl⟩⟩
    simp -implicitDefEqProofs [-intBin, -shiftBin, b_lss, x180L1, e1, e2]
end
end Go.EX

