/-
  The functions of this seat, as the interpreter reads them. Written by a program (mkseat.py).
-/
import Derived.Test.YtbomedbbgfcncaaRows
import Derived.Test.YtbomedbbgfcncaaFrame
import Derived.Test.YtbomedbbgfcncaaC4
import Derived.Test.YtbomedbbgfcncaaS4k
namespace Go.Proofs.Ytbomedbbgfcncaa
open Go.EX

def gids : List Nat := [100000, 100001, 100002, 443, 100004, 445, 377, 379, 649, 505, 334, 336, 100012, 100013, 303, 361, 373, 654, 657, 509, 330, 100021, 100022, 100023, 100024, 100025, 100026, 339, 372, 655, 651, 502, 329, 100033, 100034, 100035, 100036, 100037, 100038, 338, 100040, 100041, 380]
def num (f : FuncId) : Nat := (gids[f]?).getD (100000 + f)

theorem ok3 : FunOK Try.prog num 3 x443 := .of Try.func3 (by kernel_rfl) (by kernel_rfl) (by kernel_rfl) (by kernel_rfl) (by kernel_rfl)
theorem ok5 : FunOK Try.prog num 5 x445 := .of Try.func5 (by kernel_rfl) (by kernel_rfl) (by kernel_rfl) (by kernel_rfl) (by kernel_rfl)
theorem ok6 : FunOK Try.prog num 6 x377 := .of Try.func6 (by kernel_rfl) (by kernel_rfl) (by kernel_rfl) (by kernel_rfl) (by kernel_rfl)
theorem ok7 : FunOK Try.prog num 7 x379 := .of Try.func7 (by kernel_rfl) (by kernel_rfl) (by kernel_rfl) (by kernel_rfl) (by kernel_rfl)
theorem ok8 : FunOK Try.prog num 8 x649 := .of Try.func8 (by kernel_rfl) (by kernel_rfl) (by kernel_rfl) (by kernel_rfl) (by kernel_rfl)
theorem ok9 : FunOK Try.prog num 9 x505 := .of Try.func9 (by kernel_rfl) (by kernel_rfl) (by kernel_rfl) (by kernel_rfl) (by kernel_rfl)
theorem ok10 : FunOK Try.prog num 10 x334 := .of Try.func10 (by kernel_rfl) (by kernel_rfl) (by kernel_rfl) (by kernel_rfl) (by kernel_rfl)
theorem ok11 : FunOK Try.prog num 11 x336 := .of Try.func11 (by kernel_rfl) (by kernel_rfl) (by kernel_rfl) (by kernel_rfl) (by kernel_rfl)
theorem ok14 : FunOK Try.prog num 14 x303 := .of Try.func14 (by kernel_rfl) (by kernel_rfl) (by kernel_rfl) (by kernel_rfl) (by kernel_rfl)
theorem ok15 : FunOK Try.prog num 15 x361 := .of Try.func15 (by kernel_rfl) (by kernel_rfl) (by kernel_rfl) (by kernel_rfl) (by kernel_rfl)
theorem ok16 : FunOK Try.prog num 16 x373 := .of Try.func16 (by kernel_rfl) (by kernel_rfl) (by kernel_rfl) (by kernel_rfl) (by kernel_rfl)
theorem ok17 : FunOK Try.prog num 17 x654 := .of Try.func17 (by kernel_rfl) (by kernel_rfl) (by kernel_rfl) (by kernel_rfl) (by kernel_rfl)
theorem ok18 : FunOK Try.prog num 18 x657 := .of Try.func18 (by kernel_rfl) (by kernel_rfl) (by kernel_rfl) (by kernel_rfl) (by kernel_rfl)
theorem ok19 : FunOK Try.prog num 19 x509 := .of Try.func19 (by kernel_rfl) (by kernel_rfl) (by kernel_rfl) (by kernel_rfl) (by kernel_rfl)
theorem ok20 : FunOK Try.prog num 20 x330 := .of Try.func20 (by kernel_rfl) (by kernel_rfl) (by kernel_rfl) (by kernel_rfl) (by kernel_rfl)
theorem ok27 : FunOK Try.prog num 27 x339 := .of Try.func27 (by kernel_rfl) (by kernel_rfl) (by kernel_rfl) (by kernel_rfl) (by kernel_rfl)
theorem ok28 : FunOK Try.prog num 28 x372 := .of Try.func28 (by kernel_rfl) (by kernel_rfl) (by kernel_rfl) (by kernel_rfl) (by kernel_rfl)
theorem ok29 : FunOK Try.prog num 29 x655 := .of Try.func29 (by kernel_rfl) (by kernel_rfl) (by kernel_rfl) (by kernel_rfl) (by kernel_rfl)
theorem ok30 : FunOK Try.prog num 30 x651 := .of Try.func30 (by kernel_rfl) (by kernel_rfl) (by kernel_rfl) (by kernel_rfl) (by kernel_rfl)
theorem ok31 : FunOK Try.prog num 31 x502 := .of Try.func31 (by kernel_rfl) (by kernel_rfl) (by kernel_rfl) (by kernel_rfl) (by kernel_rfl)
theorem ok32 : FunOK Try.prog num 32 x329 := .of Try.func32 (by kernel_rfl) (by kernel_rfl) (by kernel_rfl) (by kernel_rfl) (by kernel_rfl)
theorem ok39 : FunOK Try.prog num 39 x338 := .of Try.func39 (by kernel_rfl) (by kernel_rfl) (by kernel_rfl) (by kernel_rfl) (by kernel_rfl)
theorem ok42 : FunOK Try.prog num 42 x380 := .of Try.func42 (by kernel_rfl) (by kernel_rfl) (by kernel_rfl) (by kernel_rfl) (by kernel_rfl)

theorem fns (f : FuncId) (xf : XFun) (h : code4w (num f) = some xf) : FunOK Try.prog num f xf := by
  by_cases hf : f < 43
  · have hc : f = 0 ∨ f = 1 ∨ f = 2 ∨ f = 3 ∨ f = 4 ∨ f = 5 ∨ f = 6 ∨ f = 7 ∨ f = 8 ∨ f = 9 ∨ f = 10 ∨ f = 11 ∨ f = 12 ∨ f = 13 ∨ f = 14 ∨ f = 15 ∨ f = 16 ∨ f = 17 ∨ f = 18 ∨ f = 19 ∨ f = 20 ∨ f = 21 ∨ f = 22 ∨ f = 23 ∨ f = 24 ∨ f = 25 ∨ f = 26 ∨ f = 27 ∨ f = 28 ∨ f = 29 ∨ f = 30 ∨ f = 31 ∨ f = 32 ∨ f = 33 ∨ f = 34 ∨ f = 35 ∨ f = 36 ∨ f = 37 ∨ f = 38 ∨ f = 39 ∨ f = 40 ∨ f = 41 ∨ f = 42 := by simp only [FuncId] at *; omega
    rcases hc with rfl | rfl | rfl | rfl | rfl | rfl | rfl | rfl | rfl | rfl | rfl | rfl | rfl | rfl | rfl | rfl | rfl | rfl | rfl | rfl | rfl | rfl | rfl | rfl | rfl | rfl | rfl | rfl | rfl | rfl | rfl | rfl | rfl | rfl | rfl | rfl | rfl | rfl | rfl | rfl | rfl | rfl | rfl
    · exact absurd (h.symm.trans (by kernel_rfl : code4w (num 0) = none)) (by simp)
    · exact absurd (h.symm.trans (by kernel_rfl : code4w (num 1) = none)) (by simp)
    · exact absurd (h.symm.trans (by kernel_rfl : code4w (num 2) = none)) (by simp)
    · have e := Option.some.inj (h.symm.trans (by kernel_rfl : code4w (num 3) = some x443)); subst e; exact ok3
    · exact absurd (h.symm.trans (by kernel_rfl : code4w (num 4) = none)) (by simp)
    · have e := Option.some.inj (h.symm.trans (by kernel_rfl : code4w (num 5) = some x445)); subst e; exact ok5
    · have e := Option.some.inj (h.symm.trans (by kernel_rfl : code4w (num 6) = some x377)); subst e; exact ok6
    · have e := Option.some.inj (h.symm.trans (by kernel_rfl : code4w (num 7) = some x379)); subst e; exact ok7
    · have e := Option.some.inj (h.symm.trans (by kernel_rfl : code4w (num 8) = some x649)); subst e; exact ok8
    · have e := Option.some.inj (h.symm.trans (by kernel_rfl : code4w (num 9) = some x505)); subst e; exact ok9
    · have e := Option.some.inj (h.symm.trans (by kernel_rfl : code4w (num 10) = some x334)); subst e; exact ok10
    · have e := Option.some.inj (h.symm.trans (by kernel_rfl : code4w (num 11) = some x336)); subst e; exact ok11
    · exact absurd (h.symm.trans (by kernel_rfl : code4w (num 12) = none)) (by simp)
    · exact absurd (h.symm.trans (by kernel_rfl : code4w (num 13) = none)) (by simp)
    · have e := Option.some.inj (h.symm.trans (by kernel_rfl : code4w (num 14) = some x303)); subst e; exact ok14
    · have e := Option.some.inj (h.symm.trans (by kernel_rfl : code4w (num 15) = some x361)); subst e; exact ok15
    · have e := Option.some.inj (h.symm.trans (by kernel_rfl : code4w (num 16) = some x373)); subst e; exact ok16
    · have e := Option.some.inj (h.symm.trans (by kernel_rfl : code4w (num 17) = some x654)); subst e; exact ok17
    · have e := Option.some.inj (h.symm.trans (by kernel_rfl : code4w (num 18) = some x657)); subst e; exact ok18
    · have e := Option.some.inj (h.symm.trans (by kernel_rfl : code4w (num 19) = some x509)); subst e; exact ok19
    · have e := Option.some.inj (h.symm.trans (by kernel_rfl : code4w (num 20) = some x330)); subst e; exact ok20
    · exact absurd (h.symm.trans (by kernel_rfl : code4w (num 21) = none)) (by simp)
    · exact absurd (h.symm.trans (by kernel_rfl : code4w (num 22) = none)) (by simp)
    · exact absurd (h.symm.trans (by kernel_rfl : code4w (num 23) = none)) (by simp)
    · exact absurd (h.symm.trans (by kernel_rfl : code4w (num 24) = none)) (by simp)
    · exact absurd (h.symm.trans (by kernel_rfl : code4w (num 25) = none)) (by simp)
    · exact absurd (h.symm.trans (by kernel_rfl : code4w (num 26) = none)) (by simp)
    · have e := Option.some.inj (h.symm.trans (by kernel_rfl : code4w (num 27) = some x339)); subst e; exact ok27
    · have e := Option.some.inj (h.symm.trans (by kernel_rfl : code4w (num 28) = some x372)); subst e; exact ok28
    · have e := Option.some.inj (h.symm.trans (by kernel_rfl : code4w (num 29) = some x655)); subst e; exact ok29
    · have e := Option.some.inj (h.symm.trans (by kernel_rfl : code4w (num 30) = some x651)); subst e; exact ok30
    · have e := Option.some.inj (h.symm.trans (by kernel_rfl : code4w (num 31) = some x502)); subst e; exact ok31
    · have e := Option.some.inj (h.symm.trans (by kernel_rfl : code4w (num 32) = some x329)); subst e; exact ok32
    · exact absurd (h.symm.trans (by kernel_rfl : code4w (num 33) = none)) (by simp)
    · exact absurd (h.symm.trans (by kernel_rfl : code4w (num 34) = none)) (by simp)
    · exact absurd (h.symm.trans (by kernel_rfl : code4w (num 35) = none)) (by simp)
    · exact absurd (h.symm.trans (by kernel_rfl : code4w (num 36) = none)) (by simp)
    · exact absurd (h.symm.trans (by kernel_rfl : code4w (num 37) = none)) (by simp)
    · exact absurd (h.symm.trans (by kernel_rfl : code4w (num 38) = none)) (by simp)
    · have e := Option.some.inj (h.symm.trans (by kernel_rfl : code4w (num 39) = some x338)); subst e; exact ok39
    · exact absurd (h.symm.trans (by kernel_rfl : code4w (num 40) = none)) (by simp)
    · exact absurd (h.symm.trans (by kernel_rfl : code4w (num 41) = none)) (by simp)
    · have e := Option.some.inj (h.symm.trans (by kernel_rfl : code4w (num 42) = some x380)); subst e; exact ok42
  · have hn : num f = 100000 + f := by
      unfold num
      rw [List.getElem?_eq_none (by simp only [gids, List.length_cons, List.length_nil, FuncId] at *; omega)]; rfl
    rw [hn] at h
    unfold code4w at h
    split at h <;> first | (exfalso; simp only [FuncId] at *; omega) | cases h

theorem runs : Runs Try.prog num code4w (fun _ _ _ => none) := ⟨by kernel_rfl, fns, none_ok⟩

end Go.Proofs.Ytbomedbbgfcncaa

