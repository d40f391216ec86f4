/-
  The functions of this seat, as the interpreter reads them. Written by a program (mkseat.py).
-/
import Derived.Test.YtfmpeoickjggiaaRows
import Derived.Test.YtfmpeoickjggiaaK3
import Derived.Test.YtfmpeoickjggiaaIns
import Derived.Test.YtfmpeoickjggiaaC9
import Derived.Test.YtfmpeoickjggiaaCc9
namespace Go.Proofs.Ytfmpeoickjggiaa
open Go.EX

def gids : List Nat := [100000, 100001, 703, 462, 465, 464, 468, 374, 658, 533, 331, 467, 659, 303, 340, 368, 661, 542, 538, 540, 325, 470, 350, 660, 248, 313, 367, 662, 251, 247, 539, 543, 541, 537, 536, 145, 535, 324, 249, 737, 250, 766, 312, 363, 364, 370, 371, 369, 252, 253, 747, 254, 750, 255, 748, 256, 259, 257, 320, 321, 327, 328, 326, 100063, 783, 304, 305, 318, 319, 314, 757, 760, 758, 746, 258, 782, 756, 767, 100078, 100079, 100080, 100081, 100082, 100083, 100084, 100085, 100086, 100087, 100088, 100089, 100090, 100091, 100092, 100093, 100094]
def num (f : FuncId) : Nat := (gids[f]?).getD (100000 + f)

theorem ok3 : FunOK Try.prog num 3 x462 := .of Try.func3 (by kernel_rfl) (by kernel_rfl) (by kernel_rfl) (by kernel_rfl) (by kernel_rfl)
theorem ok4 : FunOK Try.prog num 4 x465 := .of Try.func4 (by kernel_rfl) (by kernel_rfl) (by kernel_rfl) (by kernel_rfl) (by kernel_rfl)
theorem ok5 : FunOK Try.prog num 5 x464 := .of Try.func5 (by kernel_rfl) (by kernel_rfl) (by kernel_rfl) (by kernel_rfl) (by kernel_rfl)
theorem ok6 : FunOK Try.prog num 6 x468 := .of Try.func6 (by kernel_rfl) (by kernel_rfl) (by kernel_rfl) (by kernel_rfl) (by kernel_rfl)
theorem ok7 : FunOK Try.prog num 7 x374 := .of Try.func7 (by kernel_rfl) (by kernel_rfl) (by kernel_rfl) (by kernel_rfl) (by kernel_rfl)
theorem ok8 : FunOK Try.prog num 8 x658 := .of Try.func8 (by kernel_rfl) (by kernel_rfl) (by kernel_rfl) (by kernel_rfl) (by kernel_rfl)
theorem ok9 : FunOK Try.prog num 9 x533 := .of Try.func9 (by kernel_rfl) (by kernel_rfl) (by kernel_rfl) (by kernel_rfl) (by kernel_rfl)
theorem ok10 : FunOK Try.prog num 10 x331 := .of Try.func10 (by kernel_rfl) (by kernel_rfl) (by kernel_rfl) (by kernel_rfl) (by kernel_rfl)
theorem ok11 : FunOK Try.prog num 11 x467 := .of Try.func11 (by kernel_rfl) (by kernel_rfl) (by kernel_rfl) (by kernel_rfl) (by kernel_rfl)
theorem ok12 : FunOK Try.prog num 12 x659 := .of Try.func12 (by kernel_rfl) (by kernel_rfl) (by kernel_rfl) (by kernel_rfl) (by kernel_rfl)
theorem ok13 : FunOK Try.prog num 13 x303 := .of Try.func13 (by kernel_rfl) (by kernel_rfl) (by kernel_rfl) (by kernel_rfl) (by kernel_rfl)
theorem ok14 : FunOK Try.prog num 14 x340 := .of Try.func14 (by kernel_rfl) (by kernel_rfl) (by kernel_rfl) (by kernel_rfl) (by kernel_rfl)
theorem ok15 : FunOK Try.prog num 15 x368 := .of Try.func15 (by kernel_rfl) (by kernel_rfl) (by kernel_rfl) (by kernel_rfl) (by kernel_rfl)
theorem ok16 : FunOK Try.prog num 16 x661 := .of Try.func16 (by kernel_rfl) (by kernel_rfl) (by kernel_rfl) (by kernel_rfl) (by kernel_rfl)
theorem ok17 : FunOK Try.prog num 17 x542 := .of Try.func17 (by kernel_rfl) (by kernel_rfl) (by kernel_rfl) (by kernel_rfl) (by kernel_rfl)
theorem ok18 : FunOK Try.prog num 18 x538 := .of Try.func18 (by kernel_rfl) (by kernel_rfl) (by kernel_rfl) (by kernel_rfl) (by kernel_rfl)
theorem ok19 : FunOK Try.prog num 19 x540 := .of Try.func19 (by kernel_rfl) (by kernel_rfl) (by kernel_rfl) (by kernel_rfl) (by kernel_rfl)
theorem ok20 : FunOK Try.prog num 20 x325 := .of Try.func20 (by kernel_rfl) (by kernel_rfl) (by kernel_rfl) (by kernel_rfl) (by kernel_rfl)
theorem ok21 : FunOK Try.prog num 21 x470 := .of Try.func21 (by kernel_rfl) (by kernel_rfl) (by kernel_rfl) (by kernel_rfl) (by kernel_rfl)
theorem ok22 : FunOK Try.prog num 22 x350 := .of Try.func22 (by kernel_rfl) (by kernel_rfl) (by kernel_rfl) (by kernel_rfl) (by kernel_rfl)
theorem ok23 : FunOK Try.prog num 23 x660 := .of Try.func23 (by kernel_rfl) (by kernel_rfl) (by kernel_rfl) (by kernel_rfl) (by kernel_rfl)
theorem ok24 : FunOK Try.prog num 24 x248 := .of Try.func24 (by kernel_rfl) (by kernel_rfl) (by kernel_rfl) (by kernel_rfl) (by kernel_rfl)
theorem ok25 : FunOK Try.prog num 25 x313 := .of Try.func25 (by kernel_rfl) (by kernel_rfl) (by kernel_rfl) (by kernel_rfl) (by kernel_rfl)
theorem ok26 : FunOK Try.prog num 26 x367 := .of Try.func26 (by kernel_rfl) (by kernel_rfl) (by kernel_rfl) (by kernel_rfl) (by kernel_rfl)
theorem ok27 : FunOK Try.prog num 27 x662 := .of Try.func27 (by kernel_rfl) (by kernel_rfl) (by kernel_rfl) (by kernel_rfl) (by kernel_rfl)
theorem ok28 : FunOK Try.prog num 28 x251 := .of Try.func28 (by kernel_rfl) (by kernel_rfl) (by kernel_rfl) (by kernel_rfl) (by kernel_rfl)
theorem ok29 : FunOK Try.prog num 29 x247 := .of Try.func29 (by kernel_rfl) (by kernel_rfl) (by kernel_rfl) (by kernel_rfl) (by kernel_rfl)
theorem ok30 : FunOK Try.prog num 30 x539 := .of Try.func30 (by kernel_rfl) (by kernel_rfl) (by kernel_rfl) (by kernel_rfl) (by kernel_rfl)
theorem ok31 : FunOK Try.prog num 31 x543 := .of Try.func31 (by kernel_rfl) (by kernel_rfl) (by kernel_rfl) (by kernel_rfl) (by kernel_rfl)
theorem ok32 : FunOK Try.prog num 32 x541 := .of Try.func32 (by kernel_rfl) (by kernel_rfl) (by kernel_rfl) (by kernel_rfl) (by kernel_rfl)
theorem ok33 : FunOK Try.prog num 33 x537 := .of Try.func33 (by kernel_rfl) (by kernel_rfl) (by kernel_rfl) (by kernel_rfl) (by kernel_rfl)
theorem ok34 : FunOK Try.prog num 34 x536 := .of Try.func34 (by kernel_rfl) (by kernel_rfl) (by kernel_rfl) (by kernel_rfl) (by kernel_rfl)
theorem ok35 : FunOK Try.prog num 35 x145 := .of Try.func35 (by kernel_rfl) (by kernel_rfl) (by kernel_rfl) (by kernel_rfl) (by kernel_rfl)
theorem ok36 : FunOK Try.prog num 36 x535 := .of Try.func36 (by kernel_rfl) (by kernel_rfl) (by kernel_rfl) (by kernel_rfl) (by kernel_rfl)
theorem ok37 : FunOK Try.prog num 37 x324 := .of Try.func37 (by kernel_rfl) (by kernel_rfl) (by kernel_rfl) (by kernel_rfl) (by kernel_rfl)
theorem ok38 : FunOK Try.prog num 38 x249 := .of Try.func38 (by kernel_rfl) (by kernel_rfl) (by kernel_rfl) (by kernel_rfl) (by kernel_rfl)
theorem ok39 : FunOK Try.prog num 39 x737 := .of Try.func39 (by kernel_rfl) (by kernel_rfl) (by kernel_rfl) (by kernel_rfl) (by kernel_rfl)
theorem ok40 : FunOK Try.prog num 40 x250 := .of Try.func40 (by kernel_rfl) (by kernel_rfl) (by kernel_rfl) (by kernel_rfl) (by kernel_rfl)
theorem ok42 : FunOK Try.prog num 42 x312 := .of Try.func42 (by kernel_rfl) (by kernel_rfl) (by kernel_rfl) (by kernel_rfl) (by kernel_rfl)
theorem ok43 : FunOK Try.prog num 43 x363 := .of Try.func43 (by kernel_rfl) (by kernel_rfl) (by kernel_rfl) (by kernel_rfl) (by kernel_rfl)
theorem ok44 : FunOK Try.prog num 44 x364 := .of Try.func44 (by kernel_rfl) (by kernel_rfl) (by kernel_rfl) (by kernel_rfl) (by kernel_rfl)
theorem ok45 : FunOK Try.prog num 45 x370 := .of Try.func45 (by kernel_rfl) (by kernel_rfl) (by kernel_rfl) (by kernel_rfl) (by kernel_rfl)
theorem ok46 : FunOK Try.prog num 46 x371 := .of Try.func46 (by kernel_rfl) (by kernel_rfl) (by kernel_rfl) (by kernel_rfl) (by kernel_rfl)
theorem ok47 : FunOK Try.prog num 47 x369 := .of Try.func47 (by kernel_rfl) (by kernel_rfl) (by kernel_rfl) (by kernel_rfl) (by kernel_rfl)
theorem ok48 : FunOK Try.prog num 48 x252 := .of Try.func48 (by kernel_rfl) (by kernel_rfl) (by kernel_rfl) (by kernel_rfl) (by kernel_rfl)
theorem ok49 : FunOK Try.prog num 49 x253 := .of Try.func49 (by kernel_rfl) (by kernel_rfl) (by kernel_rfl) (by kernel_rfl) (by kernel_rfl)
theorem ok50 : FunOK Try.prog num 50 x747 := .of Try.func50 (by kernel_rfl) (by kernel_rfl) (by kernel_rfl) (by kernel_rfl) (by kernel_rfl)
theorem ok51 : FunOK Try.prog num 51 x254 := .of Try.func51 (by kernel_rfl) (by kernel_rfl) (by kernel_rfl) (by kernel_rfl) (by kernel_rfl)
theorem ok52 : FunOK Try.prog num 52 x750 := .of Try.func52 (by kernel_rfl) (by kernel_rfl) (by kernel_rfl) (by kernel_rfl) (by kernel_rfl)
theorem ok53 : FunOK Try.prog num 53 x255 := .of Try.func53 (by kernel_rfl) (by kernel_rfl) (by kernel_rfl) (by kernel_rfl) (by kernel_rfl)
theorem ok54 : FunOK Try.prog num 54 x748 := .of Try.func54 (by kernel_rfl) (by kernel_rfl) (by kernel_rfl) (by kernel_rfl) (by kernel_rfl)
theorem ok55 : FunOK Try.prog num 55 x256 := .of Try.func55 (by kernel_rfl) (by kernel_rfl) (by kernel_rfl) (by kernel_rfl) (by kernel_rfl)
theorem ok56 : FunOK Try.prog num 56 x259 := .of Try.func56 (by kernel_rfl) (by kernel_rfl) (by kernel_rfl) (by kernel_rfl) (by kernel_rfl)
theorem ok57 : FunOK Try.prog num 57 x257 := .of Try.func57 (by kernel_rfl) (by kernel_rfl) (by kernel_rfl) (by kernel_rfl) (by kernel_rfl)
theorem ok58 : FunOK Try.prog num 58 x320 := .of Try.func58 (by kernel_rfl) (by kernel_rfl) (by kernel_rfl) (by kernel_rfl) (by kernel_rfl)
theorem ok59 : FunOK Try.prog num 59 x321 := .of Try.func59 (by kernel_rfl) (by kernel_rfl) (by kernel_rfl) (by kernel_rfl) (by kernel_rfl)
theorem ok60 : FunOK Try.prog num 60 x327 := .of Try.func60 (by kernel_rfl) (by kernel_rfl) (by kernel_rfl) (by kernel_rfl) (by kernel_rfl)
theorem ok61 : FunOK Try.prog num 61 x328 := .of Try.func61 (by kernel_rfl) (by kernel_rfl) (by kernel_rfl) (by kernel_rfl) (by kernel_rfl)
theorem ok62 : FunOK Try.prog num 62 x326 := .of Try.func62 (by kernel_rfl) (by kernel_rfl) (by kernel_rfl) (by kernel_rfl) (by kernel_rfl)
theorem ok65 : FunOK Try.prog num 65 x304 := .of Try.func65 (by kernel_rfl) (by kernel_rfl) (by kernel_rfl) (by kernel_rfl) (by kernel_rfl)
theorem ok66 : FunOK Try.prog num 66 x305 := .of Try.func66 (by kernel_rfl) (by kernel_rfl) (by kernel_rfl) (by kernel_rfl) (by kernel_rfl)
theorem ok67 : FunOK Try.prog num 67 x318 := .of Try.func67 (by kernel_rfl) (by kernel_rfl) (by kernel_rfl) (by kernel_rfl) (by kernel_rfl)
theorem ok68 : FunOK Try.prog num 68 x319 := .of Try.func68 (by kernel_rfl) (by kernel_rfl) (by kernel_rfl) (by kernel_rfl) (by kernel_rfl)
theorem ok69 : FunOK Try.prog num 69 x314 := .of Try.func69 (by kernel_rfl) (by kernel_rfl) (by kernel_rfl) (by kernel_rfl) (by kernel_rfl)
theorem ok70 : FunOK Try.prog num 70 x757 := .of Try.func70 (by kernel_rfl) (by kernel_rfl) (by kernel_rfl) (by kernel_rfl) (by kernel_rfl)
theorem ok71 : FunOK Try.prog num 71 x760 := .of Try.func71 (by kernel_rfl) (by kernel_rfl) (by kernel_rfl) (by kernel_rfl) (by kernel_rfl)
theorem ok72 : FunOK Try.prog num 72 x758 := .of Try.func72 (by kernel_rfl) (by kernel_rfl) (by kernel_rfl) (by kernel_rfl) (by kernel_rfl)
theorem ok73 : FunOK Try.prog num 73 x746 := .of Try.func73 (by kernel_rfl) (by kernel_rfl) (by kernel_rfl) (by kernel_rfl) (by kernel_rfl)
theorem ok74 : FunOK Try.prog num 74 x258 := .of Try.func74 (by kernel_rfl) (by kernel_rfl) (by kernel_rfl) (by kernel_rfl) (by kernel_rfl)
theorem ok76 : FunOK Try.prog num 76 x756 := .of Try.func76 (by kernel_rfl) (by kernel_rfl) (by kernel_rfl) (by kernel_rfl) (by kernel_rfl)

theorem fns (f : FuncId) (xf : XFun) (h : code9 (num f) = some xf) : FunOK Try.prog num f xf := by
  by_cases hf : f < 95
  · rcases Nat.lt_or_ge f 47 with h47 | h47
    · rcases Nat.lt_or_ge f 23 with h23 | h23
      · rcases Nat.lt_or_ge f 11 with h11 | h11
        · rcases Nat.lt_or_ge f 5 with h5 | h5
          · rcases Nat.lt_or_ge f 2 with h2 | h2
            · rcases Nat.lt_or_ge f 1 with h1 | h1
              · obtain rfl : f = 0 := by simp only [FuncId] at *; omega
                exact absurd (h.symm.trans (by kernel_rfl : code9 (num 0) = none)) (by simp)
              · obtain rfl : f = 1 := by simp only [FuncId] at *; omega
                exact absurd (h.symm.trans (by kernel_rfl : code9 (num 1) = none)) (by simp)
            · rcases Nat.lt_or_ge f 3 with h3 | h3
              · obtain rfl : f = 2 := by simp only [FuncId] at *; omega
                exact absurd (h.symm.trans (by kernel_rfl : code9 (num 2) = none)) (by simp)
              · rcases Nat.lt_or_ge f 4 with h4 | h4
                · obtain rfl : f = 3 := by simp only [FuncId] at *; omega
                  have e := Option.some.inj (h.symm.trans (by kernel_rfl : code9 (num 3) = some x462)); subst e; exact ok3
                · obtain rfl : f = 4 := by simp only [FuncId] at *; omega
                  have e := Option.some.inj (h.symm.trans (by kernel_rfl : code9 (num 4) = some x465)); subst e; exact ok4
          · rcases Nat.lt_or_ge f 8 with h8 | h8
            · rcases Nat.lt_or_ge f 6 with h6 | h6
              · obtain rfl : f = 5 := by simp only [FuncId] at *; omega
                have e := Option.some.inj (h.symm.trans (by kernel_rfl : code9 (num 5) = some x464)); subst e; exact ok5
              · rcases Nat.lt_or_ge f 7 with h7 | h7
                · obtain rfl : f = 6 := by simp only [FuncId] at *; omega
                  have e := Option.some.inj (h.symm.trans (by kernel_rfl : code9 (num 6) = some x468)); subst e; exact ok6
                · obtain rfl : f = 7 := by simp only [FuncId] at *; omega
                  have e := Option.some.inj (h.symm.trans (by kernel_rfl : code9 (num 7) = some x374)); subst e; exact ok7
            · rcases Nat.lt_or_ge f 9 with h9 | h9
              · obtain rfl : f = 8 := by simp only [FuncId] at *; omega
                have e := Option.some.inj (h.symm.trans (by kernel_rfl : code9 (num 8) = some x658)); subst e; exact ok8
              · rcases Nat.lt_or_ge f 10 with h10 | h10
                · obtain rfl : f = 9 := by simp only [FuncId] at *; omega
                  have e := Option.some.inj (h.symm.trans (by kernel_rfl : code9 (num 9) = some x533)); subst e; exact ok9
                · obtain rfl : f = 10 := by simp only [FuncId] at *; omega
                  have e := Option.some.inj (h.symm.trans (by kernel_rfl : code9 (num 10) = some x331)); subst e; exact ok10
        · rcases Nat.lt_or_ge f 17 with h17 | h17
          · rcases Nat.lt_or_ge f 14 with h14 | h14
            · rcases Nat.lt_or_ge f 12 with h12 | h12
              · obtain rfl : f = 11 := by simp only [FuncId] at *; omega
                have e := Option.some.inj (h.symm.trans (by kernel_rfl : code9 (num 11) = some x467)); subst e; exact ok11
              · rcases Nat.lt_or_ge f 13 with h13 | h13
                · obtain rfl : f = 12 := by simp only [FuncId] at *; omega
                  have e := Option.some.inj (h.symm.trans (by kernel_rfl : code9 (num 12) = some x659)); subst e; exact ok12
                · obtain rfl : f = 13 := by simp only [FuncId] at *; omega
                  have e := Option.some.inj (h.symm.trans (by kernel_rfl : code9 (num 13) = some x303)); subst e; exact ok13
            · rcases Nat.lt_or_ge f 15 with h15 | h15
              · obtain rfl : f = 14 := by simp only [FuncId] at *; omega
                have e := Option.some.inj (h.symm.trans (by kernel_rfl : code9 (num 14) = some x340)); subst e; exact ok14
              · rcases Nat.lt_or_ge f 16 with h16 | h16
                · obtain rfl : f = 15 := by simp only [FuncId] at *; omega
                  have e := Option.some.inj (h.symm.trans (by kernel_rfl : code9 (num 15) = some x368)); subst e; exact ok15
                · obtain rfl : f = 16 := by simp only [FuncId] at *; omega
                  have e := Option.some.inj (h.symm.trans (by kernel_rfl : code9 (num 16) = some x661)); subst e; exact ok16
          · rcases Nat.lt_or_ge f 20 with h20 | h20
            · rcases Nat.lt_or_ge f 18 with h18 | h18
              · obtain rfl : f = 17 := by simp only [FuncId] at *; omega
                have e := Option.some.inj (h.symm.trans (by kernel_rfl : code9 (num 17) = some x542)); subst e; exact ok17
              · rcases Nat.lt_or_ge f 19 with h19 | h19
                · obtain rfl : f = 18 := by simp only [FuncId] at *; omega
                  have e := Option.some.inj (h.symm.trans (by kernel_rfl : code9 (num 18) = some x538)); subst e; exact ok18
                · obtain rfl : f = 19 := by simp only [FuncId] at *; omega
                  have e := Option.some.inj (h.symm.trans (by kernel_rfl : code9 (num 19) = some x540)); subst e; exact ok19
            · rcases Nat.lt_or_ge f 21 with h21 | h21
              · obtain rfl : f = 20 := by simp only [FuncId] at *; omega
                have e := Option.some.inj (h.symm.trans (by kernel_rfl : code9 (num 20) = some x325)); subst e; exact ok20
              · rcases Nat.lt_or_ge f 22 with h22 | h22
                · obtain rfl : f = 21 := by simp only [FuncId] at *; omega
                  have e := Option.some.inj (h.symm.trans (by kernel_rfl : code9 (num 21) = some x470)); subst e; exact ok21
                · obtain rfl : f = 22 := by simp only [FuncId] at *; omega
                  have e := Option.some.inj (h.symm.trans (by kernel_rfl : code9 (num 22) = some x350)); subst e; exact ok22
      · rcases Nat.lt_or_ge f 35 with h35 | h35
        · rcases Nat.lt_or_ge f 29 with h29 | h29
          · rcases Nat.lt_or_ge f 26 with h26 | h26
            · rcases Nat.lt_or_ge f 24 with h24 | h24
              · obtain rfl : f = 23 := by simp only [FuncId] at *; omega
                have e := Option.some.inj (h.symm.trans (by kernel_rfl : code9 (num 23) = some x660)); subst e; exact ok23
              · rcases Nat.lt_or_ge f 25 with h25 | h25
                · obtain rfl : f = 24 := by simp only [FuncId] at *; omega
                  have e := Option.some.inj (h.symm.trans (by kernel_rfl : code9 (num 24) = some x248)); subst e; exact ok24
                · obtain rfl : f = 25 := by simp only [FuncId] at *; omega
                  have e := Option.some.inj (h.symm.trans (by kernel_rfl : code9 (num 25) = some x313)); subst e; exact ok25
            · rcases Nat.lt_or_ge f 27 with h27 | h27
              · obtain rfl : f = 26 := by simp only [FuncId] at *; omega
                have e := Option.some.inj (h.symm.trans (by kernel_rfl : code9 (num 26) = some x367)); subst e; exact ok26
              · rcases Nat.lt_or_ge f 28 with h28 | h28
                · obtain rfl : f = 27 := by simp only [FuncId] at *; omega
                  have e := Option.some.inj (h.symm.trans (by kernel_rfl : code9 (num 27) = some x662)); subst e; exact ok27
                · obtain rfl : f = 28 := by simp only [FuncId] at *; omega
                  have e := Option.some.inj (h.symm.trans (by kernel_rfl : code9 (num 28) = some x251)); subst e; exact ok28
          · rcases Nat.lt_or_ge f 32 with h32 | h32
            · rcases Nat.lt_or_ge f 30 with h30 | h30
              · obtain rfl : f = 29 := by simp only [FuncId] at *; omega
                have e := Option.some.inj (h.symm.trans (by kernel_rfl : code9 (num 29) = some x247)); subst e; exact ok29
              · rcases Nat.lt_or_ge f 31 with h31 | h31
                · obtain rfl : f = 30 := by simp only [FuncId] at *; omega
                  have e := Option.some.inj (h.symm.trans (by kernel_rfl : code9 (num 30) = some x539)); subst e; exact ok30
                · obtain rfl : f = 31 := by simp only [FuncId] at *; omega
                  have e := Option.some.inj (h.symm.trans (by kernel_rfl : code9 (num 31) = some x543)); subst e; exact ok31
            · rcases Nat.lt_or_ge f 33 with h33 | h33
              · obtain rfl : f = 32 := by simp only [FuncId] at *; omega
                have e := Option.some.inj (h.symm.trans (by kernel_rfl : code9 (num 32) = some x541)); subst e; exact ok32
              · rcases Nat.lt_or_ge f 34 with h34 | h34
                · obtain rfl : f = 33 := by simp only [FuncId] at *; omega
                  have e := Option.some.inj (h.symm.trans (by kernel_rfl : code9 (num 33) = some x537)); subst e; exact ok33
                · obtain rfl : f = 34 := by simp only [FuncId] at *; omega
                  have e := Option.some.inj (h.symm.trans (by kernel_rfl : code9 (num 34) = some x536)); subst e; exact ok34
        · rcases Nat.lt_or_ge f 41 with h41 | h41
          · rcases Nat.lt_or_ge f 38 with h38 | h38
            · rcases Nat.lt_or_ge f 36 with h36 | h36
              · obtain rfl : f = 35 := by simp only [FuncId] at *; omega
                have e := Option.some.inj (h.symm.trans (by kernel_rfl : code9 (num 35) = some x145)); subst e; exact ok35
              · rcases Nat.lt_or_ge f 37 with h37 | h37
                · obtain rfl : f = 36 := by simp only [FuncId] at *; omega
                  have e := Option.some.inj (h.symm.trans (by kernel_rfl : code9 (num 36) = some x535)); subst e; exact ok36
                · obtain rfl : f = 37 := by simp only [FuncId] at *; omega
                  have e := Option.some.inj (h.symm.trans (by kernel_rfl : code9 (num 37) = some x324)); subst e; exact ok37
            · rcases Nat.lt_or_ge f 39 with h39 | h39
              · obtain rfl : f = 38 := by simp only [FuncId] at *; omega
                have e := Option.some.inj (h.symm.trans (by kernel_rfl : code9 (num 38) = some x249)); subst e; exact ok38
              · rcases Nat.lt_or_ge f 40 with h40 | h40
                · obtain rfl : f = 39 := by simp only [FuncId] at *; omega
                  have e := Option.some.inj (h.symm.trans (by kernel_rfl : code9 (num 39) = some x737)); subst e; exact ok39
                · obtain rfl : f = 40 := by simp only [FuncId] at *; omega
                  have e := Option.some.inj (h.symm.trans (by kernel_rfl : code9 (num 40) = some x250)); subst e; exact ok40
          · rcases Nat.lt_or_ge f 44 with h44 | h44
            · rcases Nat.lt_or_ge f 42 with h42 | h42
              · obtain rfl : f = 41 := by simp only [FuncId] at *; omega
                exact absurd (h.symm.trans (by kernel_rfl : code9 (num 41) = none)) (by simp)
              · rcases Nat.lt_or_ge f 43 with h43 | h43
                · obtain rfl : f = 42 := by simp only [FuncId] at *; omega
                  have e := Option.some.inj (h.symm.trans (by kernel_rfl : code9 (num 42) = some x312)); subst e; exact ok42
                · obtain rfl : f = 43 := by simp only [FuncId] at *; omega
                  have e := Option.some.inj (h.symm.trans (by kernel_rfl : code9 (num 43) = some x363)); subst e; exact ok43
            · rcases Nat.lt_or_ge f 45 with h45 | h45
              · obtain rfl : f = 44 := by simp only [FuncId] at *; omega
                have e := Option.some.inj (h.symm.trans (by kernel_rfl : code9 (num 44) = some x364)); subst e; exact ok44
              · rcases Nat.lt_or_ge f 46 with h46 | h46
                · obtain rfl : f = 45 := by simp only [FuncId] at *; omega
                  have e := Option.some.inj (h.symm.trans (by kernel_rfl : code9 (num 45) = some x370)); subst e; exact ok45
                · obtain rfl : f = 46 := by simp only [FuncId] at *; omega
                  have e := Option.some.inj (h.symm.trans (by kernel_rfl : code9 (num 46) = some x371)); subst e; exact ok46
    · rcases Nat.lt_or_ge f 71 with h71 | h71
      · rcases Nat.lt_or_ge f 59 with h59 | h59
        · rcases Nat.lt_or_ge f 53 with h53 | h53
          · rcases Nat.lt_or_ge f 50 with h50 | h50
            · rcases Nat.lt_or_ge f 48 with h48 | h48
              · obtain rfl : f = 47 := by simp only [FuncId] at *; omega
                have e := Option.some.inj (h.symm.trans (by kernel_rfl : code9 (num 47) = some x369)); subst e; exact ok47
              · rcases Nat.lt_or_ge f 49 with h49 | h49
                · obtain rfl : f = 48 := by simp only [FuncId] at *; omega
                  have e := Option.some.inj (h.symm.trans (by kernel_rfl : code9 (num 48) = some x252)); subst e; exact ok48
                · obtain rfl : f = 49 := by simp only [FuncId] at *; omega
                  have e := Option.some.inj (h.symm.trans (by kernel_rfl : code9 (num 49) = some x253)); subst e; exact ok49
            · rcases Nat.lt_or_ge f 51 with h51 | h51
              · obtain rfl : f = 50 := by simp only [FuncId] at *; omega
                have e := Option.some.inj (h.symm.trans (by kernel_rfl : code9 (num 50) = some x747)); subst e; exact ok50
              · rcases Nat.lt_or_ge f 52 with h52 | h52
                · obtain rfl : f = 51 := by simp only [FuncId] at *; omega
                  have e := Option.some.inj (h.symm.trans (by kernel_rfl : code9 (num 51) = some x254)); subst e; exact ok51
                · obtain rfl : f = 52 := by simp only [FuncId] at *; omega
                  have e := Option.some.inj (h.symm.trans (by kernel_rfl : code9 (num 52) = some x750)); subst e; exact ok52
          · rcases Nat.lt_or_ge f 56 with h56 | h56
            · rcases Nat.lt_or_ge f 54 with h54 | h54
              · obtain rfl : f = 53 := by simp only [FuncId] at *; omega
                have e := Option.some.inj (h.symm.trans (by kernel_rfl : code9 (num 53) = some x255)); subst e; exact ok53
              · rcases Nat.lt_or_ge f 55 with h55 | h55
                · obtain rfl : f = 54 := by simp only [FuncId] at *; omega
                  have e := Option.some.inj (h.symm.trans (by kernel_rfl : code9 (num 54) = some x748)); subst e; exact ok54
                · obtain rfl : f = 55 := by simp only [FuncId] at *; omega
                  have e := Option.some.inj (h.symm.trans (by kernel_rfl : code9 (num 55) = some x256)); subst e; exact ok55
            · rcases Nat.lt_or_ge f 57 with h57 | h57
              · obtain rfl : f = 56 := by simp only [FuncId] at *; omega
                have e := Option.some.inj (h.symm.trans (by kernel_rfl : code9 (num 56) = some x259)); subst e; exact ok56
              · rcases Nat.lt_or_ge f 58 with h58 | h58
                · obtain rfl : f = 57 := by simp only [FuncId] at *; omega
                  have e := Option.some.inj (h.symm.trans (by kernel_rfl : code9 (num 57) = some x257)); subst e; exact ok57
                · obtain rfl : f = 58 := by simp only [FuncId] at *; omega
                  have e := Option.some.inj (h.symm.trans (by kernel_rfl : code9 (num 58) = some x320)); subst e; exact ok58
        · rcases Nat.lt_or_ge f 65 with h65 | h65
          · rcases Nat.lt_or_ge f 62 with h62 | h62
            · rcases Nat.lt_or_ge f 60 with h60 | h60
              · obtain rfl : f = 59 := by simp only [FuncId] at *; omega
                have e := Option.some.inj (h.symm.trans (by kernel_rfl : code9 (num 59) = some x321)); subst e; exact ok59
              · rcases Nat.lt_or_ge f 61 with h61 | h61
                · obtain rfl : f = 60 := by simp only [FuncId] at *; omega
                  have e := Option.some.inj (h.symm.trans (by kernel_rfl : code9 (num 60) = some x327)); subst e; exact ok60
                · obtain rfl : f = 61 := by simp only [FuncId] at *; omega
                  have e := Option.some.inj (h.symm.trans (by kernel_rfl : code9 (num 61) = some x328)); subst e; exact ok61
            · rcases Nat.lt_or_ge f 63 with h63 | h63
              · obtain rfl : f = 62 := by simp only [FuncId] at *; omega
                have e := Option.some.inj (h.symm.trans (by kernel_rfl : code9 (num 62) = some x326)); subst e; exact ok62
              · rcases Nat.lt_or_ge f 64 with h64 | h64
                · obtain rfl : f = 63 := by simp only [FuncId] at *; omega
                  exact absurd (h.symm.trans (by kernel_rfl : code9 (num 63) = none)) (by simp)
                · obtain rfl : f = 64 := by simp only [FuncId] at *; omega
                  exact absurd (h.symm.trans (by kernel_rfl : code9 (num 64) = none)) (by simp)
          · rcases Nat.lt_or_ge f 68 with h68 | h68
            · rcases Nat.lt_or_ge f 66 with h66 | h66
              · obtain rfl : f = 65 := by simp only [FuncId] at *; omega
                have e := Option.some.inj (h.symm.trans (by kernel_rfl : code9 (num 65) = some x304)); subst e; exact ok65
              · rcases Nat.lt_or_ge f 67 with h67 | h67
                · obtain rfl : f = 66 := by simp only [FuncId] at *; omega
                  have e := Option.some.inj (h.symm.trans (by kernel_rfl : code9 (num 66) = some x305)); subst e; exact ok66
                · obtain rfl : f = 67 := by simp only [FuncId] at *; omega
                  have e := Option.some.inj (h.symm.trans (by kernel_rfl : code9 (num 67) = some x318)); subst e; exact ok67
            · rcases Nat.lt_or_ge f 69 with h69 | h69
              · obtain rfl : f = 68 := by simp only [FuncId] at *; omega
                have e := Option.some.inj (h.symm.trans (by kernel_rfl : code9 (num 68) = some x319)); subst e; exact ok68
              · rcases Nat.lt_or_ge f 70 with h70 | h70
                · obtain rfl : f = 69 := by simp only [FuncId] at *; omega
                  have e := Option.some.inj (h.symm.trans (by kernel_rfl : code9 (num 69) = some x314)); subst e; exact ok69
                · obtain rfl : f = 70 := by simp only [FuncId] at *; omega
                  have e := Option.some.inj (h.symm.trans (by kernel_rfl : code9 (num 70) = some x757)); subst e; exact ok70
      · rcases Nat.lt_or_ge f 83 with h83 | h83
        · rcases Nat.lt_or_ge f 77 with h77 | h77
          · rcases Nat.lt_or_ge f 74 with h74 | h74
            · rcases Nat.lt_or_ge f 72 with h72 | h72
              · obtain rfl : f = 71 := by simp only [FuncId] at *; omega
                have e := Option.some.inj (h.symm.trans (by kernel_rfl : code9 (num 71) = some x760)); subst e; exact ok71
              · rcases Nat.lt_or_ge f 73 with h73 | h73
                · obtain rfl : f = 72 := by simp only [FuncId] at *; omega
                  have e := Option.some.inj (h.symm.trans (by kernel_rfl : code9 (num 72) = some x758)); subst e; exact ok72
                · obtain rfl : f = 73 := by simp only [FuncId] at *; omega
                  have e := Option.some.inj (h.symm.trans (by kernel_rfl : code9 (num 73) = some x746)); subst e; exact ok73
            · rcases Nat.lt_or_ge f 75 with h75 | h75
              · obtain rfl : f = 74 := by simp only [FuncId] at *; omega
                have e := Option.some.inj (h.symm.trans (by kernel_rfl : code9 (num 74) = some x258)); subst e; exact ok74
              · rcases Nat.lt_or_ge f 76 with h76 | h76
                · obtain rfl : f = 75 := by simp only [FuncId] at *; omega
                  exact absurd (h.symm.trans (by kernel_rfl : code9 (num 75) = none)) (by simp)
                · obtain rfl : f = 76 := by simp only [FuncId] at *; omega
                  have e := Option.some.inj (h.symm.trans (by kernel_rfl : code9 (num 76) = some x756)); subst e; exact ok76
          · rcases Nat.lt_or_ge f 80 with h80 | h80
            · rcases Nat.lt_or_ge f 78 with h78 | h78
              · obtain rfl : f = 77 := by simp only [FuncId] at *; omega
                exact absurd (h.symm.trans (by kernel_rfl : code9 (num 77) = none)) (by simp)
              · rcases Nat.lt_or_ge f 79 with h79 | h79
                · obtain rfl : f = 78 := by simp only [FuncId] at *; omega
                  exact absurd (h.symm.trans (by kernel_rfl : code9 (num 78) = none)) (by simp)
                · obtain rfl : f = 79 := by simp only [FuncId] at *; omega
                  exact absurd (h.symm.trans (by kernel_rfl : code9 (num 79) = none)) (by simp)
            · rcases Nat.lt_or_ge f 81 with h81 | h81
              · obtain rfl : f = 80 := by simp only [FuncId] at *; omega
                exact absurd (h.symm.trans (by kernel_rfl : code9 (num 80) = none)) (by simp)
              · rcases Nat.lt_or_ge f 82 with h82 | h82
                · obtain rfl : f = 81 := by simp only [FuncId] at *; omega
                  exact absurd (h.symm.trans (by kernel_rfl : code9 (num 81) = none)) (by simp)
                · obtain rfl : f = 82 := by simp only [FuncId] at *; omega
                  exact absurd (h.symm.trans (by kernel_rfl : code9 (num 82) = none)) (by simp)
        · rcases Nat.lt_or_ge f 89 with h89 | h89
          · rcases Nat.lt_or_ge f 86 with h86 | h86
            · rcases Nat.lt_or_ge f 84 with h84 | h84
              · obtain rfl : f = 83 := by simp only [FuncId] at *; omega
                exact absurd (h.symm.trans (by kernel_rfl : code9 (num 83) = none)) (by simp)
              · rcases Nat.lt_or_ge f 85 with h85 | h85
                · obtain rfl : f = 84 := by simp only [FuncId] at *; omega
                  exact absurd (h.symm.trans (by kernel_rfl : code9 (num 84) = none)) (by simp)
                · obtain rfl : f = 85 := by simp only [FuncId] at *; omega
                  exact absurd (h.symm.trans (by kernel_rfl : code9 (num 85) = none)) (by simp)
            · rcases Nat.lt_or_ge f 87 with h87 | h87
              · obtain rfl : f = 86 := by simp only [FuncId] at *; omega
                exact absurd (h.symm.trans (by kernel_rfl : code9 (num 86) = none)) (by simp)
              · rcases Nat.lt_or_ge f 88 with h88 | h88
                · obtain rfl : f = 87 := by simp only [FuncId] at *; omega
                  exact absurd (h.symm.trans (by kernel_rfl : code9 (num 87) = none)) (by simp)
                · obtain rfl : f = 88 := by simp only [FuncId] at *; omega
                  exact absurd (h.symm.trans (by kernel_rfl : code9 (num 88) = none)) (by simp)
          · rcases Nat.lt_or_ge f 92 with h92 | h92
            · rcases Nat.lt_or_ge f 90 with h90 | h90
              · obtain rfl : f = 89 := by simp only [FuncId] at *; omega
                exact absurd (h.symm.trans (by kernel_rfl : code9 (num 89) = none)) (by simp)
              · rcases Nat.lt_or_ge f 91 with h91 | h91
                · obtain rfl : f = 90 := by simp only [FuncId] at *; omega
                  exact absurd (h.symm.trans (by kernel_rfl : code9 (num 90) = none)) (by simp)
                · obtain rfl : f = 91 := by simp only [FuncId] at *; omega
                  exact absurd (h.symm.trans (by kernel_rfl : code9 (num 91) = none)) (by simp)
            · rcases Nat.lt_or_ge f 93 with h93 | h93
              · obtain rfl : f = 92 := by simp only [FuncId] at *; omega
                exact absurd (h.symm.trans (by kernel_rfl : code9 (num 92) = none)) (by simp)
              · rcases Nat.lt_or_ge f 94 with h94 | h94
                · obtain rfl : f = 93 := by simp only [FuncId] at *; omega
                  exact absurd (h.symm.trans (by kernel_rfl : code9 (num 93) = none)) (by simp)
                · obtain rfl : f = 94 := by simp only [FuncId] at *; omega
                  exact absurd (h.symm.trans (by kernel_rfl : code9 (num 94) = none)) (by simp)
  · have hn : num f = 100000 + f := by
      unfold num
      rw [List.getElem?_eq_none (by rw [show gids.length = 95 from by kernel_rfl]; simp only [FuncId] at *; omega)]; rfl
    rw [hn] at h
    unfold code9 at h
    split at h <;> first | (exfalso; simp only [FuncId] at *; omega) | cases h

def ren21 : Go.Shelf.Ren := ⟨fun | 21 => 41 | 27 => 63 | 28 => 64 | 35 => 75 | 39 => 77 | n => n, fun | 22 => 32 | 3 => 3 | 4 => 4 | 0 => 0 | n => n, fun | n => n⟩
theorem lays21 : Go.Proofs.Lays2.n21 Try.prog ren21 := {
  mixed := by kernel_rfl
  f21 := Try.func41.trans (congrArg some (by kernel_rfl))
  f27 := Try.func63.trans (congrArg some (by kernel_rfl))
  f28 := Try.func64.trans (congrArg some (by kernel_rfl))
  f35 := Try.func75.trans (congrArg some (by kernel_rfl))
  f39 := Try.func77.trans (congrArg some (by kernel_rfl))
  t0 := Try.underlying0
  a0 := Try.isAgg0
  z0 := Try.sizeOf0
  v0 := Try.zeroValue0
  t3 := Try.underlying3
  a3 := Try.isAgg3
  z3 := Try.sizeOf3
  v3 := Try.zeroValue3
  t4 := Try.underlying4
  a4 := Try.isAgg4
  z4 := Try.sizeOf4
  v4 := Try.zeroValue4
  t22 := Try.underlying32
  a22 := Try.isAgg32
  z22 := Try.sizeOf32
  v22 := Try.zeroValue32
  i3 := by kernel_rfl }

theorem ins_num (f : FuncId) (h : num f = 766) : f = ren21.f 21 := by
  by_cases hf : f < 95
  · exact (by decide +kernel : ∀ f : Fin 95, num f.val = 766 → f.val = ren21.f 21) ⟨f, hf⟩ h
  · have hn : num f = 100000 + f := by
      unfold num
      rw [List.getElem?_eq_none (by rw [show gids.length = 95 from by kernel_rfl]; simp only [FuncId] at *; omega)]; rfl
    rw [hn] at h
    exfalso; simp only [FuncId] at *; omega

theorem ins_callable : Callable Try.prog (ren21.f 21) := ⟨Try.f41, Try.func41, by decide +kernel, by kernel_rfl⟩

theorem runs : Runs Try.prog num code9 (extInsert 766) := ⟨by kernel_rfl, fns, extInsert_ok lays21 ins_num ins_callable⟩

end Go.Proofs.Ytfmpeoickjggiaa

