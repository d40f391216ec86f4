import Derived.Test.YtgidfebccdfjgaaDoorH12
set_option linter.unusedVariables false
set_option linter.unusedSimpArgs false
namespace Go.EX
section
variable {code : Nat → Option XFun} {ext : Calls'}
theorem ap_loop (c : Heaps code ext) (N : Nat) {iv : IV} {xs : List HOp} (hr : Reads tHOp iv xs) {W B : List Nat} (hi : HI W B 0) (s : St) (hs : s.tidy [0, 1, 5, 7] = ⟨0, apEnv N iv 0, hMem W B 0⟩) :
    ∃ x s', den code ext (.loop [0, 1, 5, 7] x315L1) s = some (x, s') ∧ x ≠ .normal ∧
      (x = .exit 0 ∧ ∃ W' B' e' i, HI W' B' e' ∧ W'.length = W.length ∧ s' = ⟨0, apEnv N iv i ++ [(38, avb false)], hMem W' B' e'⟩) := by
  have hlen := reads_len hr
  refine loop_rule (fun n s => ∃ (i : Nat) (W' B' : List Nat) (e' : Nat), n + i = xs.length ∧ HI W' B' e' ∧ W'.length = W.length ∧ s.tidy [0, 1, 5, 7] = ⟨0, apEnv N iv i, hMem W' B' e'⟩) _ ?_ xs.length s ⟨0, W, B, 0, rfl, hi, rfl, hs⟩
  clear hs s
  rintro n s ⟨i, W', B', e', hi1, hi2, hi3, hs⟩
  rw [hs]
  by_cases hil : i < xs.length
  · obtain ⟨s', W2, B2, e2, g1, g2, g3, g4⟩ := ap_step (ext := ext) c N hr hi2 hil
    exact ⟨.normal, s', g1, .inl ⟨rfl, n - 1, by omega, i + 1, W2, B2, e2, by omega, g2, by omega, g4⟩⟩
  · have e5 : ¬ ((i : Int) < xs.length) := by omega
    refine ⟨.exit 0, ⟨0, apEnv N iv i ++ [(38, avb false)], hMem W' B' e'⟩, ?_, .inr ⟨by simp, rfl, W', B', e', i, hi2, hi3, rfl⟩⟩
    simp -implicitDefEqProofs [-intBin, b_lss, x315L1, hlen, hil, e5]
theorem ap2_loop (c : Heaps code ext) (N : Nat) {W B : List Nat} {e : Nat} (hi : HI W B e) {l : List Nat} (hpl : placesTo B e = l) (s : St) (hs : s.tidy [0, 5, 9, 10, 11] = ⟨0, apEnv2 N (.osl 1 0 1 l.length none) 0 0, plMem W B e (plObj l)⟩) :
    ∃ x s', den code ext (.loop [0, 5, 9, 10, 11] x315L2) s = some (x, s') ∧ x ≠ .normal ∧
      (x = .exit 3 ∧ ∃ en i, en ≤ e ∧ s' = ⟨0, apEnv2 N (.osl 1 0 1 l.length none) en i ++ [(74, avb false)], plMem W B e (plObj l)⟩) := by
  have htop := hi.top
  have hbd := hi.bd
  have hl := placesTo_len B e
  rw [hpl] at hl
  refine loop_rule (fun n s => ∃ (i en : Nat), n + i = l.length ∧ en ≤ e ∧ (∀ j y, i ≤ j → l[j]? = some y → en ≤ y) ∧ s.tidy [0, 5, 9, 10, 11] = ⟨0, apEnv2 N (.osl 1 0 1 l.length none) en i, plMem W B e (plObj l)⟩) _ ?_ l.length s ⟨0, 0, rfl, by omega, fun _ _ _ _ => by omega, hs⟩
  clear hs s
  rintro n s ⟨i, en, hi1, hi2, hi3, hs⟩
  rw [hs]
  by_cases hil : i < l.length
  · have hy := List.getElem?_eq_getElem hil
    generalize l[i] = y at hy
    have hy' := hy
    rw [← hpl] at hy'
    have hb := placesTo_mem hy'
    obtain ⟨s', g1, g2⟩ := ap2_step (ext := ext) c N hi (l := l) (by omega) hy hb (hi3 i y (Nat.le_refl _) hy)
    have hin := hi.inn y hb
    refine ⟨.normal, s', g1, .inl ⟨rfl, n - 1, by omega, i + 1, _, by omega, by omega, fun j z hj hz => ?_, g2⟩⟩
    rw [← hpl] at hz
    have := hi.apart y z hb (placesTo_mem hz) (placesTo_up hy' hz (by omega))
    omega
  · have e5 : ¬ ((i : Int) < l.length) := by omega
    refine ⟨.exit 3, ⟨0, apEnv2 N (.osl 1 0 1 l.length none) en i ++ [(74, avb false)], plMem W B e (plObj l)⟩, ?_, .inr ⟨by simp, rfl, en, i, hi2, rfl⟩⟩
    simp -implicitDefEqProofs [-intBin, b_lss, x315L2, hil, e5]
end
end Go.EX

