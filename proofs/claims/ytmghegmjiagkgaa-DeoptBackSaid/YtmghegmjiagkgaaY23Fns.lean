/-
  The functions of this seat, as the interpreter reads them. Written by a program (mkseat.py).
-/
import Derived.Test.YtmghegmjiagkgaaRows
import Derived.Test.YtmghegmjiagkgaaFrame
import Derived.Test.YtmghegmjiagkgaaC23
import Derived.Test.YtmghegmjiagkgaaS23f
set_option linter.unusedVariables false
set_option linter.unusedSimpArgs false
namespace Go.Proofs.Ytmghegmjiagkgaa
open Go.EX

def gids : List Nat := [100000, 100001, 100002, 493, 496, 287, 288, 357, 497, 753, 289, 764]
def num (f : FuncId) : Nat := (gids[f]?).getD (100000 + f)

theorem ok3 : FunOK Try.prog num 3 x493 := .of Try.func3 (by kernel_rfl) (by kernel_rfl) (by kernel_rfl) (by kernel_rfl) (by kernel_rfl)
theorem ok4 : FunOK Try.prog num 4 x496 := .of Try.func4 (by kernel_rfl) (by kernel_rfl) (by kernel_rfl) (by kernel_rfl) (by kernel_rfl)
theorem ok5 : FunOK Try.prog num 5 x287 := .of Try.func5 (by kernel_rfl) (by kernel_rfl) (by kernel_rfl) (by kernel_rfl) (by kernel_rfl)
theorem ok6 : FunOK Try.prog num 6 x288 := .of Try.func6 (by kernel_rfl) (by kernel_rfl) (by kernel_rfl) (by kernel_rfl) (by kernel_rfl)
theorem ok7 : FunOK Try.prog num 7 x357 := .of Try.func7 (by kernel_rfl) (by kernel_rfl) (by kernel_rfl) (by kernel_rfl) (by kernel_rfl)
theorem ok8 : FunOK Try.prog num 8 x497 := .of Try.func8 (by kernel_rfl) (by kernel_rfl) (by kernel_rfl) (by kernel_rfl) (by kernel_rfl)
theorem ok9 : FunOK Try.prog num 9 x753 := .of Try.func9 (by kernel_rfl) (by kernel_rfl) (by kernel_rfl) (by kernel_rfl) (by kernel_rfl)
theorem ok10 : FunOK Try.prog num 10 x289 := .of Try.func10 (by kernel_rfl) (by kernel_rfl) (by kernel_rfl) (by kernel_rfl) (by kernel_rfl)
theorem ok11 : FunOK Try.prog num 11 x764 := .of Try.func11 (by kernel_rfl) (by kernel_rfl) (by kernel_rfl) (by kernel_rfl) (by kernel_rfl)

theorem fns (f : FuncId) (xf : XFun) (h : code23 (num f) = some xf) : FunOK Try.prog num f xf := by
  by_cases hf : f < 12
  · have hc : f = 0 ∨ f = 1 ∨ f = 2 ∨ f = 3 ∨ f = 4 ∨ f = 5 ∨ f = 6 ∨ f = 7 ∨ f = 8 ∨ f = 9 ∨ f = 10 ∨ f = 11 := by simp only [FuncId] at *; omega
    rcases hc with rfl | rfl | rfl | rfl | rfl | rfl | rfl | rfl | rfl | rfl | rfl | rfl
    · exact absurd (h.symm.trans (by kernel_rfl : code23 (num 0) = none)) (by simp)
    · exact absurd (h.symm.trans (by kernel_rfl : code23 (num 1) = none)) (by simp)
    · exact absurd (h.symm.trans (by kernel_rfl : code23 (num 2) = none)) (by simp)
    · have e := Option.some.inj (h.symm.trans (by kernel_rfl : code23 (num 3) = some x493)); subst e; exact ok3
    · have e := Option.some.inj (h.symm.trans (by kernel_rfl : code23 (num 4) = some x496)); subst e; exact ok4
    · have e := Option.some.inj (h.symm.trans (by kernel_rfl : code23 (num 5) = some x287)); subst e; exact ok5
    · have e := Option.some.inj (h.symm.trans (by kernel_rfl : code23 (num 6) = some x288)); subst e; exact ok6
    · have e := Option.some.inj (h.symm.trans (by kernel_rfl : code23 (num 7) = some x357)); subst e; exact ok7
    · have e := Option.some.inj (h.symm.trans (by kernel_rfl : code23 (num 8) = some x497)); subst e; exact ok8
    · have e := Option.some.inj (h.symm.trans (by kernel_rfl : code23 (num 9) = some x753)); subst e; exact ok9
    · have e := Option.some.inj (h.symm.trans (by kernel_rfl : code23 (num 10) = some x289)); subst e; exact ok10
    · have e := Option.some.inj (h.symm.trans (by kernel_rfl : code23 (num 11) = some x764)); subst e; exact ok11
  · have hn : num f = 100000 + f := by
      unfold num
      rw [List.getElem?_eq_none (by simp only [gids, List.length_cons, List.length_nil, FuncId] at *; omega)]; rfl
    rw [hn] at h
    unfold code23 at h
    split at h <;> first | (exfalso; simp only [FuncId] at *; omega) | cases h

theorem runs : Runs Try.prog num code23 (fun _ _ _ => none) := ⟨by kernel_rfl, fns, none_ok⟩

end Go.Proofs.Ytmghegmjiagkgaa

