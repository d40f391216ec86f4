import Derived.Test.YtgidfebccdfjgaaDoorH18
set_option linter.unusedVariables false
set_option linter.unusedSimpArgs false
namespace Go.EX
section
variable {code : Nat → Option XFun} {ext : Calls'}
def K1Shape (W B : List Nat) (e : Nat) (L : List Nat) (out : AV) (m : Mem) : Prop := (L = [] ∧ out = nilS ∧ m = hMem W B e) ∨ (L ≠ [] ∧ out = .osl 1 0 1 L.length none ∧ m = plMem W B e (.flat (irow L) false))
theorem k2_loop (c : Heaps code ext) {sv gv : IV} {xs : List Int} (hr : Reads (tInt .u8) sv xs) (hx200 : xs.length ≤ 200) {seed : Nat} (hseed : seed < 18446744073709551616)
    {W B : List Nat} (hw : K1 W B 0 [] (szOf xs) (wvOf seed) 0) (s : St) (hs : s.tidy [0, 1, 2, 7, 9, 10] = ⟨0, k2Env sv gv seed nilS 0, hMem W B 0⟩) :
    ∃ x s', den code ext (.loop [0, 1, 2, 7, 9, 10] x317L2) s = some (x, s') ∧ x ≠ .normal ∧ (x = .exit 0 ∧ ∃ W' B' e' L out m, K1 W' B' e' L (szOf xs) (wvOf seed) xs.length ∧ K1Shape W' B' e' L out m ∧ s' = ⟨0, k2Env sv gv seed out xs.length ++ [(38, avb false)], m⟩) := by
  have hlen := reads_len hr
  refine loop_rule (fun n s => ∃ (i : Nat) (W' B' : List Nat) (e' : Nat) (L : List Nat) (out : AV) (m : Mem), n + i = xs.length ∧ K1 W' B' e' L (szOf xs) (wvOf seed) i ∧ K1Shape W' B' e' L out m ∧ s.tidy [0, 1, 2, 7, 9, 10] = ⟨0, k2Env sv gv seed out i, m⟩) _ ?_ xs.length s
    ⟨0, W, B, 0, [], nilS, hMem W B 0, rfl, hw, .inl ⟨rfl, rfl, rfl⟩, hs⟩
  clear hs s hw
  rintro n s ⟨i, W', B', e', L, out, m, h1, h2, h3, hs⟩
  rw [hs]
  by_cases hil : i < xs.length
  · obtain ⟨s', W2, B2, e2, L2, g1, g2, g3⟩ := k2_step (ext := ext) (gv := gv) c hr hil (by omega) hseed h2 out m h3
    exact ⟨.normal, s', g1, .inl ⟨rfl, n - 1, by omega, i + 1, W2, B2, e2, L2, _, _, by omega, g2, .inr ⟨by
      intro h; have := g2.ln; rw [h] at this; simp at this, rfl, rfl⟩, g3⟩⟩
  · obtain rfl : i = xs.length := by omega
    refine ⟨.exit 0, ⟨0, k2Env sv gv seed out xs.length ++ [(38, avb false)], m⟩, ?_, .inr ⟨by simp, rfl, W', B', e', L, out, m, h2, h3, rfl⟩⟩
    simp -implicitDefEqProofs [-intBin, b_lss, x317L2, hlen]
theorem k3_loop (c : Heaps code ext) {sv gv : IV} {xs : List Int} {gs : List Bool} (hr : Reads (tInt .u8) sv xs) (hg : Reads tBool gv gs) {seed : Nat}
    {W B : List Nat} {e : Nat} {L : List Nat} (h : K3 W B e L (szOf xs) (wvOf seed) (goneOf gs) xs.length 0 0) (s : St) (hs : s.tidy [0, 1, 2, 7, 9, 14, 15] = ⟨0, k3Env sv gv seed xs.length 0 0, plMem W B e (.flat (irow L) false)⟩) :
    ∃ x s', den code ext (.loop [0, 1, 2, 7, 9, 14, 15] x317L3) s = some (x, s') ∧ x ≠ .normal ∧ (x = .exit 4 ∧ ∃ W' B' L' to, K3 W' B' e L' (szOf xs) (wvOf seed) (goneOf gs) xs.length xs.length to ∧ W'.length = W.length ∧ s' = ⟨0, k3Env sv gv seed xs.length to xs.length ++ [(82, avb false)], plMem W' B' e (.flat (irow L') false)⟩) := by
  have hlen := reads_len hr
  have hW := h.len
  refine loop_rule (fun n s => ∃ (i : Nat) (W' B' L' : List Nat) (to : Nat), n + i = xs.length ∧ K3 W' B' e L' (szOf xs) (wvOf seed) (goneOf gs) xs.length i to ∧ s.tidy [0, 1, 2, 7, 9, 14, 15] = ⟨0, k3Env sv gv seed xs.length to i, plMem W' B' e (.flat (irow L') false)⟩) _ ?_ xs.length s
    ⟨0, W, B, L, 0, rfl, h, hs⟩
  clear hs s h
  rintro n s ⟨i, W', B', L', to, h1, h2, hs⟩
  rw [hs]
  by_cases hil : i < xs.length
  · obtain ⟨s', W2, B2, L2, to2, g1, g2, g3⟩ := k3_step (ext := ext) c hr hg hil h2
    exact ⟨.normal, s', g1, .inl ⟨rfl, n - 1, by omega, i + 1, W2, B2, L2, to2, by omega, g2, g3⟩⟩
  · obtain rfl : i = xs.length := by omega
    refine ⟨.exit 4, ⟨0, k3Env sv gv seed xs.length to xs.length ++ [(82, avb false)], plMem W' B' e (.flat (irow L') false)⟩, ?_, .inr ⟨by simp, rfl, W', B', L', to, h2, by rw [h2.len, hW], rfl⟩⟩
    simp -implicitDefEqProofs [-intBin, b_lss, x317L3, hlen]
theorem k5_loop (c : Heaps code ext) {sv gv : IV} {xs : List Int} {gs : List Bool} (hr : Reads (tInt .u8) sv xs) (hg : Reads tBool gv gs) (hx200 : xs.length ≤ 200) {seed : Nat} (hseed : seed < 18446744073709551616)
    {W B : List Nat} {e : Nat} {L : List Nat} (hi : HI W B e) (hln : L.length = xs.length) (hh : ∀ j y, L[j]? = some y → goneOf gs j = false → Has W B (szOf xs) (wvOf seed) j y) (s : St) (hs : s.tidy [0, 1, 2, 7, 9, 16, 17] = ⟨0, k5Env sv gv seed xs.length 0 0, plMem W B e (.flat (irow L) false)⟩) :
    ∃ x s', den code ext (.loop [0, 1, 2, 7, 9, 16, 17] x317L5) s = some (x, s') ∧ x ≠ .normal ∧ (x = .exit 6 ∧ s' = ⟨0, k5Env sv gv seed xs.length (cnt (goneOf gs) xs.length) xs.length ++ [(128, avb false)], plMem W B e (.flat (irow L) false)⟩) := by
  have hlen := reads_len hr
  refine loop_rule (fun n s => ∃ (i : Nat), n + i = xs.length ∧ s.tidy [0, 1, 2, 7, 9, 16, 17] = ⟨0, k5Env sv gv seed xs.length (cnt (goneOf gs) i) i, plMem W B e (.flat (irow L) false)⟩) _ ?_ xs.length s ⟨0, rfl, hs⟩
  clear hs s
  rintro n s ⟨i, h1, hs⟩
  rw [hs]
  by_cases hil : i < xs.length
  · obtain ⟨s', g1, g2⟩ := k5_step (ext := ext) c hr hg hil (by omega) hseed hi hln hh
    exact ⟨.normal, s', g1, .inl ⟨rfl, n - 1, by omega, i + 1, by omega, g2⟩⟩
  · obtain rfl : i = xs.length := by omega
    refine ⟨.exit 6, ⟨0, k5Env sv gv seed xs.length (cnt (goneOf gs) xs.length) xs.length ++ [(128, avb false)], plMem W B e (.flat (irow L) false)⟩, ?_, .inr ⟨by simp, rfl, rfl⟩⟩
    simp -implicitDefEqProofs [-intBin, b_lss, x317L5, hlen]
theorem k3_nil {sv gv : IV} (hr : Reads (tInt .u8) sv []) (seed : Nat) (W B : List Nat) (e : Nat) : den code ext (.loop [0, 1, 2, 7, 9, 14, 15] x317L3) ⟨0, [(0, .imm sv), (1, .imm gv), (2, uint64 seed), (7, .optr 0 0), (9, nilS), (14, int64 0), (15, int64 0)], hMem W B e⟩ =
    some (.exit 4, ⟨0, [(0, .imm sv), (1, .imm gv), (2, uint64 seed), (7, .optr 0 0), (9, nilS), (14, int64 0), (15, int64 0), (82, avb false)], hMem W B e⟩) := by
  have hlen := reads_len hr
  obtain ⟨x, s', g1, _, rfl, rfl⟩ : ∃ x s', den code ext (.loop [0, 1, 2, 7, 9, 14, 15] x317L3) ⟨0, [(0, .imm sv), (1, .imm gv), (2, uint64 seed), (7, .optr 0 0), (9, nilS), (14, int64 0), (15, int64 0)], hMem W B e⟩ = some (x, s') ∧ x ≠ .normal ∧
      (x = .exit 4 ∧ s' = ⟨0, [(0, .imm sv), (1, .imm gv), (2, uint64 seed), (7, .optr 0 0), (9, nilS), (14, int64 0), (15, int64 0), (82, avb false)], hMem W B e⟩) := by
    refine loop_rule (fun n s => s.tidy [0, 1, 2, 7, 9, 14, 15] = ⟨0, [(0, .imm sv), (1, .imm gv), (2, uint64 seed), (7, .optr 0 0), (9, nilS), (14, int64 0), (15, int64 0)], hMem W B e⟩) _ ?_ 0 _ (by simp -implicitDefEqProofs [])
    rintro n s hs
    rw [hs]
    refine ⟨.exit 4, _, ?_, .inr ⟨by simp, rfl, rfl⟩⟩
    simp -implicitDefEqProofs [-intBin, b_lss, x317L3, hlen]
  exact g1
theorem k5_nil {sv gv : IV} (hr : Reads (tInt .u8) sv []) (seed : Nat) (W B : List Nat) (e : Nat) : den code ext (.loop [0, 1, 2, 7, 9, 16, 17] x317L5) ⟨0, [(0, .imm sv), (1, .imm gv), (2, uint64 seed), (7, .optr 0 0), (9, nilS), (16, int64 0), (17, int64 0)], hMem W B e⟩ =
    some (.exit 6, ⟨0, [(0, .imm sv), (1, .imm gv), (2, uint64 seed), (7, .optr 0 0), (9, nilS), (16, int64 0), (17, int64 0), (128, avb false)], hMem W B e⟩) := by
  have hlen := reads_len hr
  obtain ⟨x, s', g1, _, rfl, rfl⟩ : ∃ x s', den code ext (.loop [0, 1, 2, 7, 9, 16, 17] x317L5) ⟨0, [(0, .imm sv), (1, .imm gv), (2, uint64 seed), (7, .optr 0 0), (9, nilS), (16, int64 0), (17, int64 0)], hMem W B e⟩ = some (x, s') ∧ x ≠ .normal ∧
      (x = .exit 6 ∧ s' = ⟨0, [(0, .imm sv), (1, .imm gv), (2, uint64 seed), (7, .optr 0 0), (9, nilS), (16, int64 0), (17, int64 0), (128, avb false)], hMem W B e⟩) := by
    refine loop_rule (fun n s => s.tidy [0, 1, 2, 7, 9, 16, 17] = ⟨0, [(0, .imm sv), (1, .imm gv), (2, uint64 seed), (7, .optr 0 0), (9, nilS), (16, int64 0), (17, int64 0)], hMem W B e⟩) _ ?_ 0 _ (by simp -implicitDefEqProofs [])
    rintro n s hs
    rw [hs]
    refine ⟨.exit 6, _, ?_, .inr ⟨by simp, rfl, rfl⟩⟩
    simp -implicitDefEqProofs [-intBin, b_lss, x317L5, hlen]
  exact g1
end
end Go.EX

