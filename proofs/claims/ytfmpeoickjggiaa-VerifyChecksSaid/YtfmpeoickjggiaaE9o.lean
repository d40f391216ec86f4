/-
  EX: law 09: VerifyChecks holds.
-/
import Derived.Test.YtfmpeoickjggiaaE9l
import Derived.Test.YtfmpeoickjggiaaE9n
set_option linter.unusedVariables false
set_option linter.unusedSimpArgs false
namespace Go.EX

theorem frz_im (m : Mem) (x : IV) : frz m (.imm x) = some (.imm x) := rfl

set_option maxRecDepth 100000 in
/-- VerifyChecks holds. -/
theorem verifyChecks_ok {pv : IV} {ps : List Fn} (hp : Reads tFn pv ps) : ∃ m, run9 462 [.imm pv] [] = some (avb true, m) := by
  obtain ⟨g, hg, hsm⟩ := great9 hp
  refine ⟨[], ?_⟩
  cases g with
  | true =>
    unfold run9 at *
    rw [callW_fun code9 (extInsert 766) (rfl : code9 462 = some x462)]
    simp -implicitDefEqProofs [x462, hg, frz_flat]
  | false =>
    obtain ⟨hl, hs⟩ := small_of hp.2.1 hp.1 (hsm rfl)
    obtain ⟨mc, ht, hf⟩ := twin_view hp hl hs
    have hrd := reads_twins ps (fun g hg => hp.1 g hg) hl
    have hck := check_spec9 hrd
    rw [← checkR_alike (alikes_twin ps)] at hck
    have hrc := ref_check hp
    have hleft := left331 hp
    have htp : IV.slice ((ps.flatMap fun g => tFn.enc (twin g)) ++ spareIV) 0 ps.length (some (ps.length + 1)) = twProg ps := rfl
    rw [htp] at hck
    generalize twProg ps = T at *
    generalize checkR ps = R at *
    unfold run9 at *
    rw [callW_fun code9 (extInsert 766) (rfl : code9 462 = some x462)]
    simp -implicitDefEqProofs [x462, hg, ht, hf, hck, hrc, hleft, frz_flat, frz_im, -frz]

end Go.EX
