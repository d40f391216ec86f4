/-
  The functions of this seat, as the interpreter reads them. Written by a program (mkseat.py).
-/
import Derived.Test.YtbomedbbgfcncaaRows
import Derived.Test.YtbomedbbgfcncaaK3
import Derived.Test.YtbomedbbgfcncaaC4
import Derived.Test.YtbomedbbgfcncaaS4z
namespace Go.Proofs.Ytbomedbbgfcncaa
open Go.EX

def gids : List Nat := [100000, 100001, 100002, 100003, 439, 445, 377, 379, 100008, 100009, 334, 336, 646, 500, 303, 361, 373, 654, 100018, 509, 330, 656, 745, 647, 652, 510, 508, 339, 372, 655, 651, 502, 329, 755, 749, 653, 650, 506, 507, 338, 759, 503, 380]
def num (f : FuncId) : Nat := (gids[f]?).getD (100000 + f)

theorem ok4 : FunOK Try.prog num 4 x439 := .of Try.func4 (by kernel_rfl) (by kernel_rfl) (by kernel_rfl) (by kernel_rfl) (by kernel_rfl)
theorem ok5 : FunOK Try.prog num 5 x445 := .of Try.func5 (by kernel_rfl) (by kernel_rfl) (by kernel_rfl) (by kernel_rfl) (by kernel_rfl)
theorem ok6 : FunOK Try.prog num 6 x377 := .of Try.func6 (by kernel_rfl) (by kernel_rfl) (by kernel_rfl) (by kernel_rfl) (by kernel_rfl)
theorem ok7 : FunOK Try.prog num 7 x379 := .of Try.func7 (by kernel_rfl) (by kernel_rfl) (by kernel_rfl) (by kernel_rfl) (by kernel_rfl)
theorem ok10 : FunOK Try.prog num 10 x334 := .of Try.func10 (by kernel_rfl) (by kernel_rfl) (by kernel_rfl) (by kernel_rfl) (by kernel_rfl)
theorem ok11 : FunOK Try.prog num 11 x336 := .of Try.func11 (by kernel_rfl) (by kernel_rfl) (by kernel_rfl) (by kernel_rfl) (by kernel_rfl)
theorem ok12 : FunOK Try.prog num 12 x646 := .of Try.func12 (by kernel_rfl) (by kernel_rfl) (by kernel_rfl) (by kernel_rfl) (by kernel_rfl)
theorem ok13 : FunOK Try.prog num 13 x500 := .of Try.func13 (by kernel_rfl) (by kernel_rfl) (by kernel_rfl) (by kernel_rfl) (by kernel_rfl)
theorem ok14 : FunOK Try.prog num 14 x303 := .of Try.func14 (by kernel_rfl) (by kernel_rfl) (by kernel_rfl) (by kernel_rfl) (by kernel_rfl)
theorem ok15 : FunOK Try.prog num 15 x361 := .of Try.func15 (by kernel_rfl) (by kernel_rfl) (by kernel_rfl) (by kernel_rfl) (by kernel_rfl)
theorem ok16 : FunOK Try.prog num 16 x373 := .of Try.func16 (by kernel_rfl) (by kernel_rfl) (by kernel_rfl) (by kernel_rfl) (by kernel_rfl)
theorem ok17 : FunOK Try.prog num 17 x654 := .of Try.func17 (by kernel_rfl) (by kernel_rfl) (by kernel_rfl) (by kernel_rfl) (by kernel_rfl)
theorem ok19 : FunOK Try.prog num 19 x509 := .of Try.func19 (by kernel_rfl) (by kernel_rfl) (by kernel_rfl) (by kernel_rfl) (by kernel_rfl)
theorem ok20 : FunOK Try.prog num 20 x330 := .of Try.func20 (by kernel_rfl) (by kernel_rfl) (by kernel_rfl) (by kernel_rfl) (by kernel_rfl)
theorem ok21 : FunOK Try.prog num 21 x656 := .of Try.func21 (by kernel_rfl) (by kernel_rfl) (by kernel_rfl) (by kernel_rfl) (by kernel_rfl)
theorem ok22 : FunOK Try.prog num 22 x745 := .of Try.func22 (by kernel_rfl) (by kernel_rfl) (by kernel_rfl) (by kernel_rfl) (by kernel_rfl)
theorem ok23 : FunOK Try.prog num 23 x647 := .of Try.func23 (by kernel_rfl) (by kernel_rfl) (by kernel_rfl) (by kernel_rfl) (by kernel_rfl)
theorem ok24 : FunOK Try.prog num 24 x652 := .of Try.func24 (by kernel_rfl) (by kernel_rfl) (by kernel_rfl) (by kernel_rfl) (by kernel_rfl)
theorem ok25 : FunOK Try.prog num 25 x510 := .of Try.func25 (by kernel_rfl) (by kernel_rfl) (by kernel_rfl) (by kernel_rfl) (by kernel_rfl)
theorem ok26 : FunOK Try.prog num 26 x508 := .of Try.func26 (by kernel_rfl) (by kernel_rfl) (by kernel_rfl) (by kernel_rfl) (by kernel_rfl)
theorem ok27 : FunOK Try.prog num 27 x339 := .of Try.func27 (by kernel_rfl) (by kernel_rfl) (by kernel_rfl) (by kernel_rfl) (by kernel_rfl)
theorem ok28 : FunOK Try.prog num 28 x372 := .of Try.func28 (by kernel_rfl) (by kernel_rfl) (by kernel_rfl) (by kernel_rfl) (by kernel_rfl)
theorem ok29 : FunOK Try.prog num 29 x655 := .of Try.func29 (by kernel_rfl) (by kernel_rfl) (by kernel_rfl) (by kernel_rfl) (by kernel_rfl)
theorem ok30 : FunOK Try.prog num 30 x651 := .of Try.func30 (by kernel_rfl) (by kernel_rfl) (by kernel_rfl) (by kernel_rfl) (by kernel_rfl)
theorem ok31 : FunOK Try.prog num 31 x502 := .of Try.func31 (by kernel_rfl) (by kernel_rfl) (by kernel_rfl) (by kernel_rfl) (by kernel_rfl)
theorem ok32 : FunOK Try.prog num 32 x329 := .of Try.func32 (by kernel_rfl) (by kernel_rfl) (by kernel_rfl) (by kernel_rfl) (by kernel_rfl)
theorem ok33 : FunOK Try.prog num 33 x755 := .of Try.func33 (by kernel_rfl) (by kernel_rfl) (by kernel_rfl) (by kernel_rfl) (by kernel_rfl)
theorem ok34 : FunOK Try.prog num 34 x749 := .of Try.func34 (by kernel_rfl) (by kernel_rfl) (by kernel_rfl) (by kernel_rfl) (by kernel_rfl)
theorem ok35 : FunOK Try.prog num 35 x653 := .of Try.func35 (by kernel_rfl) (by kernel_rfl) (by kernel_rfl) (by kernel_rfl) (by kernel_rfl)
theorem ok36 : FunOK Try.prog num 36 x650 := .of Try.func36 (by kernel_rfl) (by kernel_rfl) (by kernel_rfl) (by kernel_rfl) (by kernel_rfl)
theorem ok37 : FunOK Try.prog num 37 x506 := .of Try.func37 (by kernel_rfl) (by kernel_rfl) (by kernel_rfl) (by kernel_rfl) (by kernel_rfl)
theorem ok38 : FunOK Try.prog num 38 x507 := .of Try.func38 (by kernel_rfl) (by kernel_rfl) (by kernel_rfl) (by kernel_rfl) (by kernel_rfl)
theorem ok39 : FunOK Try.prog num 39 x338 := .of Try.func39 (by kernel_rfl) (by kernel_rfl) (by kernel_rfl) (by kernel_rfl) (by kernel_rfl)
theorem ok40 : FunOK Try.prog num 40 x759 := .of Try.func40 (by kernel_rfl) (by kernel_rfl) (by kernel_rfl) (by kernel_rfl) (by kernel_rfl)
theorem ok41 : FunOK Try.prog num 41 x503 := .of Try.func41 (by kernel_rfl) (by kernel_rfl) (by kernel_rfl) (by kernel_rfl) (by kernel_rfl)
theorem ok42 : FunOK Try.prog num 42 x380 := .of Try.func42 (by kernel_rfl) (by kernel_rfl) (by kernel_rfl) (by kernel_rfl) (by kernel_rfl)

theorem fns (f : FuncId) (xf : XFun) (h : code4c (num f) = some xf) : FunOK Try.prog num f xf := by
  by_cases hf : f < 43
  · have hc : f = 0 ∨ f = 1 ∨ f = 2 ∨ f = 3 ∨ f = 4 ∨ f = 5 ∨ f = 6 ∨ f = 7 ∨ f = 8 ∨ f = 9 ∨ f = 10 ∨ f = 11 ∨ f = 12 ∨ f = 13 ∨ f = 14 ∨ f = 15 ∨ f = 16 ∨ f = 17 ∨ f = 18 ∨ f = 19 ∨ f = 20 ∨ f = 21 ∨ f = 22 ∨ f = 23 ∨ f = 24 ∨ f = 25 ∨ f = 26 ∨ f = 27 ∨ f = 28 ∨ f = 29 ∨ f = 30 ∨ f = 31 ∨ f = 32 ∨ f = 33 ∨ f = 34 ∨ f = 35 ∨ f = 36 ∨ f = 37 ∨ f = 38 ∨ f = 39 ∨ f = 40 ∨ f = 41 ∨ f = 42 := by simp only [FuncId] at *; omega
    rcases hc with rfl | rfl | rfl | rfl | rfl | rfl | rfl | rfl | rfl | rfl | rfl | rfl | rfl | rfl | rfl | rfl | rfl | rfl | rfl | rfl | rfl | rfl | rfl | rfl | rfl | rfl | rfl | rfl | rfl | rfl | rfl | rfl | rfl | rfl | rfl | rfl | rfl | rfl | rfl | rfl | rfl | rfl | rfl
    · exact absurd (h.symm.trans (by kernel_rfl : code4c (num 0) = none)) (by simp)
    · exact absurd (h.symm.trans (by kernel_rfl : code4c (num 1) = none)) (by simp)
    · exact absurd (h.symm.trans (by kernel_rfl : code4c (num 2) = none)) (by simp)
    · exact absurd (h.symm.trans (by kernel_rfl : code4c (num 3) = none)) (by simp)
    · have e := Option.some.inj (h.symm.trans (by kernel_rfl : code4c (num 4) = some x439)); subst e; exact ok4
    · have e := Option.some.inj (h.symm.trans (by kernel_rfl : code4c (num 5) = some x445)); subst e; exact ok5
    · have e := Option.some.inj (h.symm.trans (by kernel_rfl : code4c (num 6) = some x377)); subst e; exact ok6
    · have e := Option.some.inj (h.symm.trans (by kernel_rfl : code4c (num 7) = some x379)); subst e; exact ok7
    · exact absurd (h.symm.trans (by kernel_rfl : code4c (num 8) = none)) (by simp)
    · exact absurd (h.symm.trans (by kernel_rfl : code4c (num 9) = none)) (by simp)
    · have e := Option.some.inj (h.symm.trans (by kernel_rfl : code4c (num 10) = some x334)); subst e; exact ok10
    · have e := Option.some.inj (h.symm.trans (by kernel_rfl : code4c (num 11) = some x336)); subst e; exact ok11
    · have e := Option.some.inj (h.symm.trans (by kernel_rfl : code4c (num 12) = some x646)); subst e; exact ok12
    · have e := Option.some.inj (h.symm.trans (by kernel_rfl : code4c (num 13) = some x500)); subst e; exact ok13
    · have e := Option.some.inj (h.symm.trans (by kernel_rfl : code4c (num 14) = some x303)); subst e; exact ok14
    · have e := Option.some.inj (h.symm.trans (by kernel_rfl : code4c (num 15) = some x361)); subst e; exact ok15
    · have e := Option.some.inj (h.symm.trans (by kernel_rfl : code4c (num 16) = some x373)); subst e; exact ok16
    · have e := Option.some.inj (h.symm.trans (by kernel_rfl : code4c (num 17) = some x654)); subst e; exact ok17
    · exact absurd (h.symm.trans (by kernel_rfl : code4c (num 18) = none)) (by simp)
    · have e := Option.some.inj (h.symm.trans (by kernel_rfl : code4c (num 19) = some x509)); subst e; exact ok19
    · have e := Option.some.inj (h.symm.trans (by kernel_rfl : code4c (num 20) = some x330)); subst e; exact ok20
    · have e := Option.some.inj (h.symm.trans (by kernel_rfl : code4c (num 21) = some x656)); subst e; exact ok21
    · have e := Option.some.inj (h.symm.trans (by kernel_rfl : code4c (num 22) = some x745)); subst e; exact ok22
    · have e := Option.some.inj (h.symm.trans (by kernel_rfl : code4c (num 23) = some x647)); subst e; exact ok23
    · have e := Option.some.inj (h.symm.trans (by kernel_rfl : code4c (num 24) = some x652)); subst e; exact ok24
    · have e := Option.some.inj (h.symm.trans (by kernel_rfl : code4c (num 25) = some x510)); subst e; exact ok25
    · have e := Option.some.inj (h.symm.trans (by kernel_rfl : code4c (num 26) = some x508)); subst e; exact ok26
    · have e := Option.some.inj (h.symm.trans (by kernel_rfl : code4c (num 27) = some x339)); subst e; exact ok27
    · have e := Option.some.inj (h.symm.trans (by kernel_rfl : code4c (num 28) = some x372)); subst e; exact ok28
    · have e := Option.some.inj (h.symm.trans (by kernel_rfl : code4c (num 29) = some x655)); subst e; exact ok29
    · have e := Option.some.inj (h.symm.trans (by kernel_rfl : code4c (num 30) = some x651)); subst e; exact ok30
    · have e := Option.some.inj (h.symm.trans (by kernel_rfl : code4c (num 31) = some x502)); subst e; exact ok31
    · have e := Option.some.inj (h.symm.trans (by kernel_rfl : code4c (num 32) = some x329)); subst e; exact ok32
    · have e := Option.some.inj (h.symm.trans (by kernel_rfl : code4c (num 33) = some x755)); subst e; exact ok33
    · have e := Option.some.inj (h.symm.trans (by kernel_rfl : code4c (num 34) = some x749)); subst e; exact ok34
    · have e := Option.some.inj (h.symm.trans (by kernel_rfl : code4c (num 35) = some x653)); subst e; exact ok35
    · have e := Option.some.inj (h.symm.trans (by kernel_rfl : code4c (num 36) = some x650)); subst e; exact ok36
    · have e := Option.some.inj (h.symm.trans (by kernel_rfl : code4c (num 37) = some x506)); subst e; exact ok37
    · have e := Option.some.inj (h.symm.trans (by kernel_rfl : code4c (num 38) = some x507)); subst e; exact ok38
    · have e := Option.some.inj (h.symm.trans (by kernel_rfl : code4c (num 39) = some x338)); subst e; exact ok39
    · have e := Option.some.inj (h.symm.trans (by kernel_rfl : code4c (num 40) = some x759)); subst e; exact ok40
    · have e := Option.some.inj (h.symm.trans (by kernel_rfl : code4c (num 41) = some x503)); subst e; exact ok41
    · have e := Option.some.inj (h.symm.trans (by kernel_rfl : code4c (num 42) = some x380)); subst e; exact ok42
  · have hn : num f = 100000 + f := by
      unfold num
      rw [List.getElem?_eq_none (by simp only [gids, List.length_cons, List.length_nil, FuncId] at *; omega)]; rfl
    rw [hn] at h
    unfold code4c at h
    split at h <;> first | (exfalso; simp only [FuncId] at *; omega) | cases h

theorem runs : Runs Try.prog num code4c (fun _ _ _ => none) := ⟨by kernel_rfl, fns, none_ok⟩

end Go.Proofs.Ytbomedbbgfcncaa

