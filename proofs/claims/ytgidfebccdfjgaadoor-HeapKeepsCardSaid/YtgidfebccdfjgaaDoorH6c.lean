import Derived.Test.YtgidfebccdfjgaaDoorH6b
set_option linter.unusedVariables false
set_option linter.unusedSimpArgs false
namespace Go.EX
section
variable {code : Nat → Option XFun} {ext : Calls'}
theorem iter_forget (h : code 180 = some x180) (hy : code yieldNo = none) (ht : KnowsTz code ext) {W B : List Nat} {e lo hi : Nat} (hbl : ∀ b ∈ B, b < 18446744073709551616) (hhi : hi ≤ 64 * B.length) (hbd : B.length ≤ 1000000) (hl : lo ≤ hi) :
    ∃ B', Cleared B lo hi B' ∧ callW code ext 180 [.yld 0, .optr 1 0, .optr 2 0, .optr 3 0] (fgBase W B.length B e lo hi) = some (.tup [], fgBase W B.length B' e lo hi) := by
  obtain ⟨x, s', h1, h2, hx, B', hc, ev, rfl⟩ := fg_loop (code := code) (ext := ext) (W := W) (e := e) (lo := lo) hy ht (n := B.length) rfl hbl hhi hbd (by omega) (fun j h1 h2 => by omega) ⟨8, plEnv lo, fgBase W B.length B e lo hi⟩ (by simp -implicitDefEqProofs [])
  refine ⟨B', hc, ?_⟩
  rw [callW_fun code ext h]
  rcases hx with rfl | rfl <;> simp -implicitDefEqProofs [x180, h1]
theorem forget_spec (h : code 181 = some x181) (h179 : code 179 = some x179) (h180 : code 180 = some x180) (hy : code yieldNo = none) (ht : KnowsTz code ext) {W B : List Nat} {e lo hi : Nat} (hbl : ∀ b ∈ B, b < 18446744073709551616) (hhi : hi ≤ 64 * B.length) (hbd : B.length ≤ 1000000) (hl : lo ≤ hi) :
    ∃ B', Cleared B lo hi B' ∧ callW code ext 181 [.optr 0 0, int64 lo, int64 hi] (hMem W B e) = some (.tup [], hMem W B' e) := by
  obtain ⟨B', hc, hit⟩ := iter_forget (code := code) (ext := ext) (W := W) (e := e) h180 hy ht hbl hhi hbd hl
  refine ⟨B', hc, ?_⟩
  have ha := all_spec (ext := ext) h179 W B e (int64 lo) (int64 hi) ⟨_, rfl⟩ ⟨_, rfl⟩
  have hst : x181L1.still = true := rfl
  have hlen := hc.len
  simp only [fgBase] at hit
  rw [callW_fun code ext h]
  simp -implicitDefEqProofs [x181, ha, den_range, exRange, XCode.still, hst, hit, hlen]
end
end Go.EX

