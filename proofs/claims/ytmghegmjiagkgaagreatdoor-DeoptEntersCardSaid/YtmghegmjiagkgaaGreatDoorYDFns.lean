/-
  The functions of this seat, as the interpreter reads them. Written by a program (mkseat.py).
-/
import Derived.Test.YtmghegmjiagkgaaGreatDoorRows
import Derived.Test.YtmghegmjiagkgaaGreatDoorK3
import Derived.Test.YtmghegmjiagkgaaGreatDoorCD
import Derived.Test.YtmghegmjiagkgaaGreatDoorCE
import Derived.Test.YtmghegmjiagkgaaGreatDoorDc
namespace Go.Proofs.YtmghegmjiagkgaaGreatDoor
open Go.EX

def gids : List Nat := [100000, 100001, 703, 495, 494, 496, 379, 288, 564, 357, 336, 14, 1, 341, 287, 563, 497, 289, 64, 25, 29, 33, 34, 28, 24, 18, 17, 23, 22, 21, 32, 35, 30, 26, 20, 19, 27, 16, 31, 45, 49, 53, 54, 48, 44, 38, 37, 43, 42, 41, 52, 55, 50, 46, 40, 39, 47, 36, 51, 75, 79, 83, 84, 78, 74, 68, 67, 73, 72, 71, 82, 85, 80, 76, 70, 69, 77, 66, 81, 306, 343, 309, 753, 411, 415, 419, 420, 414, 410, 404, 403, 409, 408, 407, 418, 421, 416, 412, 406, 405, 413, 402, 417, 391, 395, 399, 400, 394, 390, 384, 383, 389, 388, 387, 398, 401, 396, 392, 386, 385, 393, 382, 397, 307, 342, 308, 764, 422, 319, 337, 786, 709, 708, 719, 718, 713, 714, 716, 732, 712, 715, 733, 734, 735, 100144, 100145, 100146, 100147, 100148, 100149, 100150, 100151, 100152, 100153, 100154, 100155, 100156, 100157, 100158, 100159, 100160, 100161, 100162, 100163, 100164, 100165, 704]
def num (f : FuncId) : Nat := (gids[f]?).getD (100000 + f)

theorem ok3 : FunOK Tryz.prog num 3 x495 := .of Tryz.func3 (by kernel_rfl) (by kernel_rfl) (by kernel_rfl) (by kernel_rfl) (by kernel_rfl)
theorem ok4 : FunOK Tryz.prog num 4 x494 := .of Tryz.func4 (by kernel_rfl) (by kernel_rfl) (by kernel_rfl) (by kernel_rfl) (by kernel_rfl)
theorem ok5 : FunOK Tryz.prog num 5 x496 := .of Tryz.func5 (by kernel_rfl) (by kernel_rfl) (by kernel_rfl) (by kernel_rfl) (by kernel_rfl)
theorem ok6 : FunOK Tryz.prog num 6 x379 := .of Tryz.func6 (by kernel_rfl) (by kernel_rfl) (by kernel_rfl) (by kernel_rfl) (by kernel_rfl)
theorem ok7 : FunOK Tryz.prog num 7 x288 := .of Tryz.func7 (by kernel_rfl) (by kernel_rfl) (by kernel_rfl) (by kernel_rfl) (by kernel_rfl)
theorem ok8 : FunOK Tryz.prog num 8 x564 := .of Tryz.func8 (by kernel_rfl) (by kernel_rfl) (by kernel_rfl) (by kernel_rfl) (by kernel_rfl)
theorem ok9 : FunOK Tryz.prog num 9 x357 := .of Tryz.func9 (by kernel_rfl) (by kernel_rfl) (by kernel_rfl) (by kernel_rfl) (by kernel_rfl)
theorem ok10 : FunOK Tryz.prog num 10 x336 := .of Tryz.func10 (by kernel_rfl) (by kernel_rfl) (by kernel_rfl) (by kernel_rfl) (by kernel_rfl)
theorem ok11 : FunOK Tryz.prog num 11 x14 := .of Tryz.func11 (by kernel_rfl) (by kernel_rfl) (by kernel_rfl) (by kernel_rfl) (by kernel_rfl)
theorem ok12 : FunOK Tryz.prog num 12 x1 := .of Tryz.func12 (by kernel_rfl) (by kernel_rfl) (by kernel_rfl) (by kernel_rfl) (by kernel_rfl)
theorem ok13 : FunOK Tryz.prog num 13 x341 := .of Tryz.func13 (by kernel_rfl) (by kernel_rfl) (by kernel_rfl) (by kernel_rfl) (by kernel_rfl)
theorem ok14 : FunOK Tryz.prog num 14 x287 := .of Tryz.func14 (by kernel_rfl) (by kernel_rfl) (by kernel_rfl) (by kernel_rfl) (by kernel_rfl)
theorem ok15 : FunOK Tryz.prog num 15 x563 := .of Tryz.func15 (by kernel_rfl) (by kernel_rfl) (by kernel_rfl) (by kernel_rfl) (by kernel_rfl)
theorem ok16 : FunOK Tryz.prog num 16 x497 := .of Tryz.func16 (by kernel_rfl) (by kernel_rfl) (by kernel_rfl) (by kernel_rfl) (by kernel_rfl)
theorem ok17 : FunOK Tryz.prog num 17 x289 := .of Tryz.func17 (by kernel_rfl) (by kernel_rfl) (by kernel_rfl) (by kernel_rfl) (by kernel_rfl)
theorem ok18 : FunOK Tryz.prog num 18 x64 := .of Tryz.func18 (by kernel_rfl) (by kernel_rfl) (by kernel_rfl) (by kernel_rfl) (by kernel_rfl)
theorem ok19 : FunOK Tryz.prog num 19 x25 := .of Tryz.func19 (by kernel_rfl) (by kernel_rfl) (by kernel_rfl) (by kernel_rfl) (by kernel_rfl)
theorem ok20 : FunOK Tryz.prog num 20 x29 := .of Tryz.func20 (by kernel_rfl) (by kernel_rfl) (by kernel_rfl) (by kernel_rfl) (by kernel_rfl)
theorem ok21 : FunOK Tryz.prog num 21 x33 := .of Tryz.func21 (by kernel_rfl) (by kernel_rfl) (by kernel_rfl) (by kernel_rfl) (by kernel_rfl)
theorem ok22 : FunOK Tryz.prog num 22 x34 := .of Tryz.func22 (by kernel_rfl) (by kernel_rfl) (by kernel_rfl) (by kernel_rfl) (by kernel_rfl)
theorem ok23 : FunOK Tryz.prog num 23 x28 := .of Tryz.func23 (by kernel_rfl) (by kernel_rfl) (by kernel_rfl) (by kernel_rfl) (by kernel_rfl)
theorem ok24 : FunOK Tryz.prog num 24 x24 := .of Tryz.func24 (by kernel_rfl) (by kernel_rfl) (by kernel_rfl) (by kernel_rfl) (by kernel_rfl)
theorem ok25 : FunOK Tryz.prog num 25 x18 := .of Tryz.func25 (by kernel_rfl) (by kernel_rfl) (by kernel_rfl) (by kernel_rfl) (by kernel_rfl)
theorem ok26 : FunOK Tryz.prog num 26 x17 := .of Tryz.func26 (by kernel_rfl) (by kernel_rfl) (by kernel_rfl) (by kernel_rfl) (by kernel_rfl)
theorem ok27 : FunOK Tryz.prog num 27 x23 := .of Tryz.func27 (by kernel_rfl) (by kernel_rfl) (by kernel_rfl) (by kernel_rfl) (by kernel_rfl)
theorem ok28 : FunOK Tryz.prog num 28 x22 := .of Tryz.func28 (by kernel_rfl) (by kernel_rfl) (by kernel_rfl) (by kernel_rfl) (by kernel_rfl)
theorem ok29 : FunOK Tryz.prog num 29 x21 := .of Tryz.func29 (by kernel_rfl) (by kernel_rfl) (by kernel_rfl) (by kernel_rfl) (by kernel_rfl)
theorem ok30 : FunOK Tryz.prog num 30 x32 := .of Tryz.func30 (by kernel_rfl) (by kernel_rfl) (by kernel_rfl) (by kernel_rfl) (by kernel_rfl)
theorem ok31 : FunOK Tryz.prog num 31 x35 := .of Tryz.func31 (by kernel_rfl) (by kernel_rfl) (by kernel_rfl) (by kernel_rfl) (by kernel_rfl)
theorem ok32 : FunOK Tryz.prog num 32 x30 := .of Tryz.func32 (by kernel_rfl) (by kernel_rfl) (by kernel_rfl) (by kernel_rfl) (by kernel_rfl)
theorem ok33 : FunOK Tryz.prog num 33 x26 := .of Tryz.func33 (by kernel_rfl) (by kernel_rfl) (by kernel_rfl) (by kernel_rfl) (by kernel_rfl)
theorem ok34 : FunOK Tryz.prog num 34 x20 := .of Tryz.func34 (by kernel_rfl) (by kernel_rfl) (by kernel_rfl) (by kernel_rfl) (by kernel_rfl)
theorem ok35 : FunOK Tryz.prog num 35 x19 := .of Tryz.func35 (by kernel_rfl) (by kernel_rfl) (by kernel_rfl) (by kernel_rfl) (by kernel_rfl)
theorem ok36 : FunOK Tryz.prog num 36 x27 := .of Tryz.func36 (by kernel_rfl) (by kernel_rfl) (by kernel_rfl) (by kernel_rfl) (by kernel_rfl)
theorem ok37 : FunOK Tryz.prog num 37 x16 := .of Tryz.func37 (by kernel_rfl) (by kernel_rfl) (by kernel_rfl) (by kernel_rfl) (by kernel_rfl)
theorem ok38 : FunOK Tryz.prog num 38 x31 := .of Tryz.func38 (by kernel_rfl) (by kernel_rfl) (by kernel_rfl) (by kernel_rfl) (by kernel_rfl)
theorem ok39 : FunOK Tryz.prog num 39 x45 := .of Tryz.func39 (by kernel_rfl) (by kernel_rfl) (by kernel_rfl) (by kernel_rfl) (by kernel_rfl)
theorem ok40 : FunOK Tryz.prog num 40 x49 := .of Tryz.func40 (by kernel_rfl) (by kernel_rfl) (by kernel_rfl) (by kernel_rfl) (by kernel_rfl)
theorem ok41 : FunOK Tryz.prog num 41 x53 := .of Tryz.func41 (by kernel_rfl) (by kernel_rfl) (by kernel_rfl) (by kernel_rfl) (by kernel_rfl)
theorem ok42 : FunOK Tryz.prog num 42 x54 := .of Tryz.func42 (by kernel_rfl) (by kernel_rfl) (by kernel_rfl) (by kernel_rfl) (by kernel_rfl)
theorem ok43 : FunOK Tryz.prog num 43 x48 := .of Tryz.func43 (by kernel_rfl) (by kernel_rfl) (by kernel_rfl) (by kernel_rfl) (by kernel_rfl)
theorem ok44 : FunOK Tryz.prog num 44 x44 := .of Tryz.func44 (by kernel_rfl) (by kernel_rfl) (by kernel_rfl) (by kernel_rfl) (by kernel_rfl)
theorem ok45 : FunOK Tryz.prog num 45 x38 := .of Tryz.func45 (by kernel_rfl) (by kernel_rfl) (by kernel_rfl) (by kernel_rfl) (by kernel_rfl)
theorem ok46 : FunOK Tryz.prog num 46 x37 := .of Tryz.func46 (by kernel_rfl) (by kernel_rfl) (by kernel_rfl) (by kernel_rfl) (by kernel_rfl)
theorem ok47 : FunOK Tryz.prog num 47 x43 := .of Tryz.func47 (by kernel_rfl) (by kernel_rfl) (by kernel_rfl) (by kernel_rfl) (by kernel_rfl)
theorem ok48 : FunOK Tryz.prog num 48 x42 := .of Tryz.func48 (by kernel_rfl) (by kernel_rfl) (by kernel_rfl) (by kernel_rfl) (by kernel_rfl)
theorem ok49 : FunOK Tryz.prog num 49 x41 := .of Tryz.func49 (by kernel_rfl) (by kernel_rfl) (by kernel_rfl) (by kernel_rfl) (by kernel_rfl)
theorem ok50 : FunOK Tryz.prog num 50 x52 := .of Tryz.func50 (by kernel_rfl) (by kernel_rfl) (by kernel_rfl) (by kernel_rfl) (by kernel_rfl)
theorem ok51 : FunOK Tryz.prog num 51 x55 := .of Tryz.func51 (by kernel_rfl) (by kernel_rfl) (by kernel_rfl) (by kernel_rfl) (by kernel_rfl)
theorem ok52 : FunOK Tryz.prog num 52 x50 := .of Tryz.func52 (by kernel_rfl) (by kernel_rfl) (by kernel_rfl) (by kernel_rfl) (by kernel_rfl)
theorem ok53 : FunOK Tryz.prog num 53 x46 := .of Tryz.func53 (by kernel_rfl) (by kernel_rfl) (by kernel_rfl) (by kernel_rfl) (by kernel_rfl)
theorem ok54 : FunOK Tryz.prog num 54 x40 := .of Tryz.func54 (by kernel_rfl) (by kernel_rfl) (by kernel_rfl) (by kernel_rfl) (by kernel_rfl)
theorem ok55 : FunOK Tryz.prog num 55 x39 := .of Tryz.func55 (by kernel_rfl) (by kernel_rfl) (by kernel_rfl) (by kernel_rfl) (by kernel_rfl)
theorem ok56 : FunOK Tryz.prog num 56 x47 := .of Tryz.func56 (by kernel_rfl) (by kernel_rfl) (by kernel_rfl) (by kernel_rfl) (by kernel_rfl)
theorem ok57 : FunOK Tryz.prog num 57 x36 := .of Tryz.func57 (by kernel_rfl) (by kernel_rfl) (by kernel_rfl) (by kernel_rfl) (by kernel_rfl)
theorem ok58 : FunOK Tryz.prog num 58 x51 := .of Tryz.func58 (by kernel_rfl) (by kernel_rfl) (by kernel_rfl) (by kernel_rfl) (by kernel_rfl)
theorem ok59 : FunOK Tryz.prog num 59 x75 := .of Tryz.func59 (by kernel_rfl) (by kernel_rfl) (by kernel_rfl) (by kernel_rfl) (by kernel_rfl)
theorem ok60 : FunOK Tryz.prog num 60 x79 := .of Tryz.func60 (by kernel_rfl) (by kernel_rfl) (by kernel_rfl) (by kernel_rfl) (by kernel_rfl)
theorem ok61 : FunOK Tryz.prog num 61 x83 := .of Tryz.func61 (by kernel_rfl) (by kernel_rfl) (by kernel_rfl) (by kernel_rfl) (by kernel_rfl)
theorem ok62 : FunOK Tryz.prog num 62 x84 := .of Tryz.func62 (by kernel_rfl) (by kernel_rfl) (by kernel_rfl) (by kernel_rfl) (by kernel_rfl)
theorem ok63 : FunOK Tryz.prog num 63 x78 := .of Tryz.func63 (by kernel_rfl) (by kernel_rfl) (by kernel_rfl) (by kernel_rfl) (by kernel_rfl)
theorem ok64 : FunOK Tryz.prog num 64 x74 := .of Tryz.func64 (by kernel_rfl) (by kernel_rfl) (by kernel_rfl) (by kernel_rfl) (by kernel_rfl)
theorem ok65 : FunOK Tryz.prog num 65 x68 := .of Tryz.func65 (by kernel_rfl) (by kernel_rfl) (by kernel_rfl) (by kernel_rfl) (by kernel_rfl)
theorem ok66 : FunOK Tryz.prog num 66 x67 := .of Tryz.func66 (by kernel_rfl) (by kernel_rfl) (by kernel_rfl) (by kernel_rfl) (by kernel_rfl)
theorem ok67 : FunOK Tryz.prog num 67 x73 := .of Tryz.func67 (by kernel_rfl) (by kernel_rfl) (by kernel_rfl) (by kernel_rfl) (by kernel_rfl)
theorem ok68 : FunOK Tryz.prog num 68 x72 := .of Tryz.func68 (by kernel_rfl) (by kernel_rfl) (by kernel_rfl) (by kernel_rfl) (by kernel_rfl)
theorem ok69 : FunOK Tryz.prog num 69 x71 := .of Tryz.func69 (by kernel_rfl) (by kernel_rfl) (by kernel_rfl) (by kernel_rfl) (by kernel_rfl)
theorem ok70 : FunOK Tryz.prog num 70 x82 := .of Tryz.func70 (by kernel_rfl) (by kernel_rfl) (by kernel_rfl) (by kernel_rfl) (by kernel_rfl)
theorem ok71 : FunOK Tryz.prog num 71 x85 := .of Tryz.func71 (by kernel_rfl) (by kernel_rfl) (by kernel_rfl) (by kernel_rfl) (by kernel_rfl)
theorem ok72 : FunOK Tryz.prog num 72 x80 := .of Tryz.func72 (by kernel_rfl) (by kernel_rfl) (by kernel_rfl) (by kernel_rfl) (by kernel_rfl)
theorem ok73 : FunOK Tryz.prog num 73 x76 := .of Tryz.func73 (by kernel_rfl) (by kernel_rfl) (by kernel_rfl) (by kernel_rfl) (by kernel_rfl)
theorem ok74 : FunOK Tryz.prog num 74 x70 := .of Tryz.func74 (by kernel_rfl) (by kernel_rfl) (by kernel_rfl) (by kernel_rfl) (by kernel_rfl)
theorem ok75 : FunOK Tryz.prog num 75 x69 := .of Tryz.func75 (by kernel_rfl) (by kernel_rfl) (by kernel_rfl) (by kernel_rfl) (by kernel_rfl)
theorem ok76 : FunOK Tryz.prog num 76 x77 := .of Tryz.func76 (by kernel_rfl) (by kernel_rfl) (by kernel_rfl) (by kernel_rfl) (by kernel_rfl)
theorem ok77 : FunOK Tryz.prog num 77 x66 := .of Tryz.func77 (by kernel_rfl) (by kernel_rfl) (by kernel_rfl) (by kernel_rfl) (by kernel_rfl)
theorem ok78 : FunOK Tryz.prog num 78 x81 := .of Tryz.func78 (by kernel_rfl) (by kernel_rfl) (by kernel_rfl) (by kernel_rfl) (by kernel_rfl)
theorem ok79 : FunOK Tryz.prog num 79 x306 := .of Tryz.func79 (by kernel_rfl) (by kernel_rfl) (by kernel_rfl) (by kernel_rfl) (by kernel_rfl)
theorem ok80 : FunOK Tryz.prog num 80 x343 := .of Tryz.func80 (by kernel_rfl) (by kernel_rfl) (by kernel_rfl) (by kernel_rfl) (by kernel_rfl)
theorem ok81 : FunOK Tryz.prog num 81 x309 := .of Tryz.func81 (by kernel_rfl) (by kernel_rfl) (by kernel_rfl) (by kernel_rfl) (by kernel_rfl)
theorem ok82 : FunOK Tryz.prog num 82 x753 := .of Tryz.func82 (by kernel_rfl) (by kernel_rfl) (by kernel_rfl) (by kernel_rfl) (by kernel_rfl)
theorem ok86 : FunOK Tryz.prog num 86 x420 := .of Tryz.func86 (by kernel_rfl) (by kernel_rfl) (by kernel_rfl) (by kernel_rfl) (by kernel_rfl)
theorem ok106 : FunOK Tryz.prog num 106 x400 := .of Tryz.func106 (by kernel_rfl) (by kernel_rfl) (by kernel_rfl) (by kernel_rfl) (by kernel_rfl)
theorem ok123 : FunOK Tryz.prog num 123 x307 := .of Tryz.func123 (by kernel_rfl) (by kernel_rfl) (by kernel_rfl) (by kernel_rfl) (by kernel_rfl)
theorem ok124 : FunOK Tryz.prog num 124 x342 := .of Tryz.func124 (by kernel_rfl) (by kernel_rfl) (by kernel_rfl) (by kernel_rfl) (by kernel_rfl)
theorem ok125 : FunOK Tryz.prog num 125 x308 := .of Tryz.func125 (by kernel_rfl) (by kernel_rfl) (by kernel_rfl) (by kernel_rfl) (by kernel_rfl)
theorem ok126 : FunOK Tryz.prog num 126 x764 := .of Tryz.func126 (by kernel_rfl) (by kernel_rfl) (by kernel_rfl) (by kernel_rfl) (by kernel_rfl)
theorem ok127 : FunOK Tryz.prog num 127 x422 := .of Tryz.func127 (by kernel_rfl) (by kernel_rfl) (by kernel_rfl) (by kernel_rfl) (by kernel_rfl)
theorem ok128 : FunOK Tryz.prog num 128 x319 := .of Tryz.func128 (by kernel_rfl) (by kernel_rfl) (by kernel_rfl) (by kernel_rfl) (by kernel_rfl)
theorem ok129 : FunOK Tryz.prog num 129 x337 := .of Tryz.func129 (by kernel_rfl) (by kernel_rfl) (by kernel_rfl) (by kernel_rfl) (by kernel_rfl)

theorem fns (f : FuncId) (xf : XFun) (h : codeD (num f) = some xf) : FunOK Tryz.prog num f xf := by
  by_cases hf : f < 167
  · rcases Nat.lt_or_ge f 83 with h83 | h83
    · rcases Nat.lt_or_ge f 41 with h41 | h41
      · rcases Nat.lt_or_ge f 20 with h20 | h20
        · rcases Nat.lt_or_ge f 10 with h10 | h10
          · rcases Nat.lt_or_ge f 5 with h5 | h5
            · rcases Nat.lt_or_ge f 2 with h2 | h2
              · rcases Nat.lt_or_ge f 1 with h1 | h1
                · obtain rfl : f = 0 := by simp only [FuncId] at *; omega
                  exact absurd (h.symm.trans (by kernel_rfl : codeD (num 0) = none)) (by simp)
                · obtain rfl : f = 1 := by simp only [FuncId] at *; omega
                  exact absurd (h.symm.trans (by kernel_rfl : codeD (num 1) = none)) (by simp)
              · rcases Nat.lt_or_ge f 3 with h3 | h3
                · obtain rfl : f = 2 := by simp only [FuncId] at *; omega
                  exact absurd (h.symm.trans (by kernel_rfl : codeD (num 2) = none)) (by simp)
                · rcases Nat.lt_or_ge f 4 with h4 | h4
                  · obtain rfl : f = 3 := by simp only [FuncId] at *; omega
                    have e := Option.some.inj (h.symm.trans (by kernel_rfl : codeD (num 3) = some x495)); subst e; exact ok3
                  · obtain rfl : f = 4 := by simp only [FuncId] at *; omega
                    have e := Option.some.inj (h.symm.trans (by kernel_rfl : codeD (num 4) = some x494)); subst e; exact ok4
            · rcases Nat.lt_or_ge f 7 with h7 | h7
              · rcases Nat.lt_or_ge f 6 with h6 | h6
                · obtain rfl : f = 5 := by simp only [FuncId] at *; omega
                  have e := Option.some.inj (h.symm.trans (by kernel_rfl : codeD (num 5) = some x496)); subst e; exact ok5
                · obtain rfl : f = 6 := by simp only [FuncId] at *; omega
                  have e := Option.some.inj (h.symm.trans (by kernel_rfl : codeD (num 6) = some x379)); subst e; exact ok6
              · rcases Nat.lt_or_ge f 8 with h8 | h8
                · obtain rfl : f = 7 := by simp only [FuncId] at *; omega
                  have e := Option.some.inj (h.symm.trans (by kernel_rfl : codeD (num 7) = some x288)); subst e; exact ok7
                · rcases Nat.lt_or_ge f 9 with h9 | h9
                  · obtain rfl : f = 8 := by simp only [FuncId] at *; omega
                    have e := Option.some.inj (h.symm.trans (by kernel_rfl : codeD (num 8) = some x564)); subst e; exact ok8
                  · obtain rfl : f = 9 := by simp only [FuncId] at *; omega
                    have e := Option.some.inj (h.symm.trans (by kernel_rfl : codeD (num 9) = some x357)); subst e; exact ok9
          · rcases Nat.lt_or_ge f 15 with h15 | h15
            · rcases Nat.lt_or_ge f 12 with h12 | h12
              · rcases Nat.lt_or_ge f 11 with h11 | h11
                · obtain rfl : f = 10 := by simp only [FuncId] at *; omega
                  have e := Option.some.inj (h.symm.trans (by kernel_rfl : codeD (num 10) = some x336)); subst e; exact ok10
                · obtain rfl : f = 11 := by simp only [FuncId] at *; omega
                  have e := Option.some.inj (h.symm.trans (by kernel_rfl : codeD (num 11) = some x14)); subst e; exact ok11
              · rcases Nat.lt_or_ge f 13 with h13 | h13
                · obtain rfl : f = 12 := by simp only [FuncId] at *; omega
                  have e := Option.some.inj (h.symm.trans (by kernel_rfl : codeD (num 12) = some x1)); subst e; exact ok12
                · rcases Nat.lt_or_ge f 14 with h14 | h14
                  · obtain rfl : f = 13 := by simp only [FuncId] at *; omega
                    have e := Option.some.inj (h.symm.trans (by kernel_rfl : codeD (num 13) = some x341)); subst e; exact ok13
                  · obtain rfl : f = 14 := by simp only [FuncId] at *; omega
                    have e := Option.some.inj (h.symm.trans (by kernel_rfl : codeD (num 14) = some x287)); subst e; exact ok14
            · rcases Nat.lt_or_ge f 17 with h17 | h17
              · rcases Nat.lt_or_ge f 16 with h16 | h16
                · obtain rfl : f = 15 := by simp only [FuncId] at *; omega
                  have e := Option.some.inj (h.symm.trans (by kernel_rfl : codeD (num 15) = some x563)); subst e; exact ok15
                · obtain rfl : f = 16 := by simp only [FuncId] at *; omega
                  have e := Option.some.inj (h.symm.trans (by kernel_rfl : codeD (num 16) = some x497)); subst e; exact ok16
              · rcases Nat.lt_or_ge f 18 with h18 | h18
                · obtain rfl : f = 17 := by simp only [FuncId] at *; omega
                  have e := Option.some.inj (h.symm.trans (by kernel_rfl : codeD (num 17) = some x289)); subst e; exact ok17
                · rcases Nat.lt_or_ge f 19 with h19 | h19
                  · obtain rfl : f = 18 := by simp only [FuncId] at *; omega
                    have e := Option.some.inj (h.symm.trans (by kernel_rfl : codeD (num 18) = some x64)); subst e; exact ok18
                  · obtain rfl : f = 19 := by simp only [FuncId] at *; omega
                    have e := Option.some.inj (h.symm.trans (by kernel_rfl : codeD (num 19) = some x25)); subst e; exact ok19
        · rcases Nat.lt_or_ge f 30 with h30 | h30
          · rcases Nat.lt_or_ge f 25 with h25 | h25
            · rcases Nat.lt_or_ge f 22 with h22 | h22
              · rcases Nat.lt_or_ge f 21 with h21 | h21
                · obtain rfl : f = 20 := by simp only [FuncId] at *; omega
                  have e := Option.some.inj (h.symm.trans (by kernel_rfl : codeD (num 20) = some x29)); subst e; exact ok20
                · obtain rfl : f = 21 := by simp only [FuncId] at *; omega
                  have e := Option.some.inj (h.symm.trans (by kernel_rfl : codeD (num 21) = some x33)); subst e; exact ok21
              · rcases Nat.lt_or_ge f 23 with h23 | h23
                · obtain rfl : f = 22 := by simp only [FuncId] at *; omega
                  have e := Option.some.inj (h.symm.trans (by kernel_rfl : codeD (num 22) = some x34)); subst e; exact ok22
                · rcases Nat.lt_or_ge f 24 with h24 | h24
                  · obtain rfl : f = 23 := by simp only [FuncId] at *; omega
                    have e := Option.some.inj (h.symm.trans (by kernel_rfl : codeD (num 23) = some x28)); subst e; exact ok23
                  · obtain rfl : f = 24 := by simp only [FuncId] at *; omega
                    have e := Option.some.inj (h.symm.trans (by kernel_rfl : codeD (num 24) = some x24)); subst e; exact ok24
            · rcases Nat.lt_or_ge f 27 with h27 | h27
              · rcases Nat.lt_or_ge f 26 with h26 | h26
                · obtain rfl : f = 25 := by simp only [FuncId] at *; omega
                  have e := Option.some.inj (h.symm.trans (by kernel_rfl : codeD (num 25) = some x18)); subst e; exact ok25
                · obtain rfl : f = 26 := by simp only [FuncId] at *; omega
                  have e := Option.some.inj (h.symm.trans (by kernel_rfl : codeD (num 26) = some x17)); subst e; exact ok26
              · rcases Nat.lt_or_ge f 28 with h28 | h28
                · obtain rfl : f = 27 := by simp only [FuncId] at *; omega
                  have e := Option.some.inj (h.symm.trans (by kernel_rfl : codeD (num 27) = some x23)); subst e; exact ok27
                · rcases Nat.lt_or_ge f 29 with h29 | h29
                  · obtain rfl : f = 28 := by simp only [FuncId] at *; omega
                    have e := Option.some.inj (h.symm.trans (by kernel_rfl : codeD (num 28) = some x22)); subst e; exact ok28
                  · obtain rfl : f = 29 := by simp only [FuncId] at *; omega
                    have e := Option.some.inj (h.symm.trans (by kernel_rfl : codeD (num 29) = some x21)); subst e; exact ok29
          · rcases Nat.lt_or_ge f 35 with h35 | h35
            · rcases Nat.lt_or_ge f 32 with h32 | h32
              · rcases Nat.lt_or_ge f 31 with h31 | h31
                · obtain rfl : f = 30 := by simp only [FuncId] at *; omega
                  have e := Option.some.inj (h.symm.trans (by kernel_rfl : codeD (num 30) = some x32)); subst e; exact ok30
                · obtain rfl : f = 31 := by simp only [FuncId] at *; omega
                  have e := Option.some.inj (h.symm.trans (by kernel_rfl : codeD (num 31) = some x35)); subst e; exact ok31
              · rcases Nat.lt_or_ge f 33 with h33 | h33
                · obtain rfl : f = 32 := by simp only [FuncId] at *; omega
                  have e := Option.some.inj (h.symm.trans (by kernel_rfl : codeD (num 32) = some x30)); subst e; exact ok32
                · rcases Nat.lt_or_ge f 34 with h34 | h34
                  · obtain rfl : f = 33 := by simp only [FuncId] at *; omega
                    have e := Option.some.inj (h.symm.trans (by kernel_rfl : codeD (num 33) = some x26)); subst e; exact ok33
                  · obtain rfl : f = 34 := by simp only [FuncId] at *; omega
                    have e := Option.some.inj (h.symm.trans (by kernel_rfl : codeD (num 34) = some x20)); subst e; exact ok34
            · rcases Nat.lt_or_ge f 38 with h38 | h38
              · rcases Nat.lt_or_ge f 36 with h36 | h36
                · obtain rfl : f = 35 := by simp only [FuncId] at *; omega
                  have e := Option.some.inj (h.symm.trans (by kernel_rfl : codeD (num 35) = some x19)); subst e; exact ok35
                · rcases Nat.lt_or_ge f 37 with h37 | h37
                  · obtain rfl : f = 36 := by simp only [FuncId] at *; omega
                    have e := Option.some.inj (h.symm.trans (by kernel_rfl : codeD (num 36) = some x27)); subst e; exact ok36
                  · obtain rfl : f = 37 := by simp only [FuncId] at *; omega
                    have e := Option.some.inj (h.symm.trans (by kernel_rfl : codeD (num 37) = some x16)); subst e; exact ok37
              · rcases Nat.lt_or_ge f 39 with h39 | h39
                · obtain rfl : f = 38 := by simp only [FuncId] at *; omega
                  have e := Option.some.inj (h.symm.trans (by kernel_rfl : codeD (num 38) = some x31)); subst e; exact ok38
                · rcases Nat.lt_or_ge f 40 with h40 | h40
                  · obtain rfl : f = 39 := by simp only [FuncId] at *; omega
                    have e := Option.some.inj (h.symm.trans (by kernel_rfl : codeD (num 39) = some x45)); subst e; exact ok39
                  · obtain rfl : f = 40 := by simp only [FuncId] at *; omega
                    have e := Option.some.inj (h.symm.trans (by kernel_rfl : codeD (num 40) = some x49)); subst e; exact ok40
      · rcases Nat.lt_or_ge f 62 with h62 | h62
        · rcases Nat.lt_or_ge f 51 with h51 | h51
          · rcases Nat.lt_or_ge f 46 with h46 | h46
            · rcases Nat.lt_or_ge f 43 with h43 | h43
              · rcases Nat.lt_or_ge f 42 with h42 | h42
                · obtain rfl : f = 41 := by simp only [FuncId] at *; omega
                  have e := Option.some.inj (h.symm.trans (by kernel_rfl : codeD (num 41) = some x53)); subst e; exact ok41
                · obtain rfl : f = 42 := by simp only [FuncId] at *; omega
                  have e := Option.some.inj (h.symm.trans (by kernel_rfl : codeD (num 42) = some x54)); subst e; exact ok42
              · rcases Nat.lt_or_ge f 44 with h44 | h44
                · obtain rfl : f = 43 := by simp only [FuncId] at *; omega
                  have e := Option.some.inj (h.symm.trans (by kernel_rfl : codeD (num 43) = some x48)); subst e; exact ok43
                · rcases Nat.lt_or_ge f 45 with h45 | h45
                  · obtain rfl : f = 44 := by simp only [FuncId] at *; omega
                    have e := Option.some.inj (h.symm.trans (by kernel_rfl : codeD (num 44) = some x44)); subst e; exact ok44
                  · obtain rfl : f = 45 := by simp only [FuncId] at *; omega
                    have e := Option.some.inj (h.symm.trans (by kernel_rfl : codeD (num 45) = some x38)); subst e; exact ok45
            · rcases Nat.lt_or_ge f 48 with h48 | h48
              · rcases Nat.lt_or_ge f 47 with h47 | h47
                · obtain rfl : f = 46 := by simp only [FuncId] at *; omega
                  have e := Option.some.inj (h.symm.trans (by kernel_rfl : codeD (num 46) = some x37)); subst e; exact ok46
                · obtain rfl : f = 47 := by simp only [FuncId] at *; omega
                  have e := Option.some.inj (h.symm.trans (by kernel_rfl : codeD (num 47) = some x43)); subst e; exact ok47
              · rcases Nat.lt_or_ge f 49 with h49 | h49
                · obtain rfl : f = 48 := by simp only [FuncId] at *; omega
                  have e := Option.some.inj (h.symm.trans (by kernel_rfl : codeD (num 48) = some x42)); subst e; exact ok48
                · rcases Nat.lt_or_ge f 50 with h50 | h50
                  · obtain rfl : f = 49 := by simp only [FuncId] at *; omega
                    have e := Option.some.inj (h.symm.trans (by kernel_rfl : codeD (num 49) = some x41)); subst e; exact ok49
                  · obtain rfl : f = 50 := by simp only [FuncId] at *; omega
                    have e := Option.some.inj (h.symm.trans (by kernel_rfl : codeD (num 50) = some x52)); subst e; exact ok50
          · rcases Nat.lt_or_ge f 56 with h56 | h56
            · rcases Nat.lt_or_ge f 53 with h53 | h53
              · rcases Nat.lt_or_ge f 52 with h52 | h52
                · obtain rfl : f = 51 := by simp only [FuncId] at *; omega
                  have e := Option.some.inj (h.symm.trans (by kernel_rfl : codeD (num 51) = some x55)); subst e; exact ok51
                · obtain rfl : f = 52 := by simp only [FuncId] at *; omega
                  have e := Option.some.inj (h.symm.trans (by kernel_rfl : codeD (num 52) = some x50)); subst e; exact ok52
              · rcases Nat.lt_or_ge f 54 with h54 | h54
                · obtain rfl : f = 53 := by simp only [FuncId] at *; omega
                  have e := Option.some.inj (h.symm.trans (by kernel_rfl : codeD (num 53) = some x46)); subst e; exact ok53
                · rcases Nat.lt_or_ge f 55 with h55 | h55
                  · obtain rfl : f = 54 := by simp only [FuncId] at *; omega
                    have e := Option.some.inj (h.symm.trans (by kernel_rfl : codeD (num 54) = some x40)); subst e; exact ok54
                  · obtain rfl : f = 55 := by simp only [FuncId] at *; omega
                    have e := Option.some.inj (h.symm.trans (by kernel_rfl : codeD (num 55) = some x39)); subst e; exact ok55
            · rcases Nat.lt_or_ge f 59 with h59 | h59
              · rcases Nat.lt_or_ge f 57 with h57 | h57
                · obtain rfl : f = 56 := by simp only [FuncId] at *; omega
                  have e := Option.some.inj (h.symm.trans (by kernel_rfl : codeD (num 56) = some x47)); subst e; exact ok56
                · rcases Nat.lt_or_ge f 58 with h58 | h58
                  · obtain rfl : f = 57 := by simp only [FuncId] at *; omega
                    have e := Option.some.inj (h.symm.trans (by kernel_rfl : codeD (num 57) = some x36)); subst e; exact ok57
                  · obtain rfl : f = 58 := by simp only [FuncId] at *; omega
                    have e := Option.some.inj (h.symm.trans (by kernel_rfl : codeD (num 58) = some x51)); subst e; exact ok58
              · rcases Nat.lt_or_ge f 60 with h60 | h60
                · obtain rfl : f = 59 := by simp only [FuncId] at *; omega
                  have e := Option.some.inj (h.symm.trans (by kernel_rfl : codeD (num 59) = some x75)); subst e; exact ok59
                · rcases Nat.lt_or_ge f 61 with h61 | h61
                  · obtain rfl : f = 60 := by simp only [FuncId] at *; omega
                    have e := Option.some.inj (h.symm.trans (by kernel_rfl : codeD (num 60) = some x79)); subst e; exact ok60
                  · obtain rfl : f = 61 := by simp only [FuncId] at *; omega
                    have e := Option.some.inj (h.symm.trans (by kernel_rfl : codeD (num 61) = some x83)); subst e; exact ok61
        · rcases Nat.lt_or_ge f 72 with h72 | h72
          · rcases Nat.lt_or_ge f 67 with h67 | h67
            · rcases Nat.lt_or_ge f 64 with h64 | h64
              · rcases Nat.lt_or_ge f 63 with h63 | h63
                · obtain rfl : f = 62 := by simp only [FuncId] at *; omega
                  have e := Option.some.inj (h.symm.trans (by kernel_rfl : codeD (num 62) = some x84)); subst e; exact ok62
                · obtain rfl : f = 63 := by simp only [FuncId] at *; omega
                  have e := Option.some.inj (h.symm.trans (by kernel_rfl : codeD (num 63) = some x78)); subst e; exact ok63
              · rcases Nat.lt_or_ge f 65 with h65 | h65
                · obtain rfl : f = 64 := by simp only [FuncId] at *; omega
                  have e := Option.some.inj (h.symm.trans (by kernel_rfl : codeD (num 64) = some x74)); subst e; exact ok64
                · rcases Nat.lt_or_ge f 66 with h66 | h66
                  · obtain rfl : f = 65 := by simp only [FuncId] at *; omega
                    have e := Option.some.inj (h.symm.trans (by kernel_rfl : codeD (num 65) = some x68)); subst e; exact ok65
                  · obtain rfl : f = 66 := by simp only [FuncId] at *; omega
                    have e := Option.some.inj (h.symm.trans (by kernel_rfl : codeD (num 66) = some x67)); subst e; exact ok66
            · rcases Nat.lt_or_ge f 69 with h69 | h69
              · rcases Nat.lt_or_ge f 68 with h68 | h68
                · obtain rfl : f = 67 := by simp only [FuncId] at *; omega
                  have e := Option.some.inj (h.symm.trans (by kernel_rfl : codeD (num 67) = some x73)); subst e; exact ok67
                · obtain rfl : f = 68 := by simp only [FuncId] at *; omega
                  have e := Option.some.inj (h.symm.trans (by kernel_rfl : codeD (num 68) = some x72)); subst e; exact ok68
              · rcases Nat.lt_or_ge f 70 with h70 | h70
                · obtain rfl : f = 69 := by simp only [FuncId] at *; omega
                  have e := Option.some.inj (h.symm.trans (by kernel_rfl : codeD (num 69) = some x71)); subst e; exact ok69
                · rcases Nat.lt_or_ge f 71 with h71 | h71
                  · obtain rfl : f = 70 := by simp only [FuncId] at *; omega
                    have e := Option.some.inj (h.symm.trans (by kernel_rfl : codeD (num 70) = some x82)); subst e; exact ok70
                  · obtain rfl : f = 71 := by simp only [FuncId] at *; omega
                    have e := Option.some.inj (h.symm.trans (by kernel_rfl : codeD (num 71) = some x85)); subst e; exact ok71
          · rcases Nat.lt_or_ge f 77 with h77 | h77
            · rcases Nat.lt_or_ge f 74 with h74 | h74
              · rcases Nat.lt_or_ge f 73 with h73 | h73
                · obtain rfl : f = 72 := by simp only [FuncId] at *; omega
                  have e := Option.some.inj (h.symm.trans (by kernel_rfl : codeD (num 72) = some x80)); subst e; exact ok72
                · obtain rfl : f = 73 := by simp only [FuncId] at *; omega
                  have e := Option.some.inj (h.symm.trans (by kernel_rfl : codeD (num 73) = some x76)); subst e; exact ok73
              · rcases Nat.lt_or_ge f 75 with h75 | h75
                · obtain rfl : f = 74 := by simp only [FuncId] at *; omega
                  have e := Option.some.inj (h.symm.trans (by kernel_rfl : codeD (num 74) = some x70)); subst e; exact ok74
                · rcases Nat.lt_or_ge f 76 with h76 | h76
                  · obtain rfl : f = 75 := by simp only [FuncId] at *; omega
                    have e := Option.some.inj (h.symm.trans (by kernel_rfl : codeD (num 75) = some x69)); subst e; exact ok75
                  · obtain rfl : f = 76 := by simp only [FuncId] at *; omega
                    have e := Option.some.inj (h.symm.trans (by kernel_rfl : codeD (num 76) = some x77)); subst e; exact ok76
            · rcases Nat.lt_or_ge f 80 with h80 | h80
              · rcases Nat.lt_or_ge f 78 with h78 | h78
                · obtain rfl : f = 77 := by simp only [FuncId] at *; omega
                  have e := Option.some.inj (h.symm.trans (by kernel_rfl : codeD (num 77) = some x66)); subst e; exact ok77
                · rcases Nat.lt_or_ge f 79 with h79 | h79
                  · obtain rfl : f = 78 := by simp only [FuncId] at *; omega
                    have e := Option.some.inj (h.symm.trans (by kernel_rfl : codeD (num 78) = some x81)); subst e; exact ok78
                  · obtain rfl : f = 79 := by simp only [FuncId] at *; omega
                    have e := Option.some.inj (h.symm.trans (by kernel_rfl : codeD (num 79) = some x306)); subst e; exact ok79
              · rcases Nat.lt_or_ge f 81 with h81 | h81
                · obtain rfl : f = 80 := by simp only [FuncId] at *; omega
                  have e := Option.some.inj (h.symm.trans (by kernel_rfl : codeD (num 80) = some x343)); subst e; exact ok80
                · rcases Nat.lt_or_ge f 82 with h82 | h82
                  · obtain rfl : f = 81 := by simp only [FuncId] at *; omega
                    have e := Option.some.inj (h.symm.trans (by kernel_rfl : codeD (num 81) = some x309)); subst e; exact ok81
                  · obtain rfl : f = 82 := by simp only [FuncId] at *; omega
                    have e := Option.some.inj (h.symm.trans (by kernel_rfl : codeD (num 82) = some x753)); subst e; exact ok82
    · rcases Nat.lt_or_ge f 125 with h125 | h125
      · rcases Nat.lt_or_ge f 104 with h104 | h104
        · rcases Nat.lt_or_ge f 93 with h93 | h93
          · rcases Nat.lt_or_ge f 88 with h88 | h88
            · rcases Nat.lt_or_ge f 85 with h85 | h85
              · rcases Nat.lt_or_ge f 84 with h84 | h84
                · obtain rfl : f = 83 := by simp only [FuncId] at *; omega
                  exact absurd (h.symm.trans (by kernel_rfl : codeD (num 83) = none)) (by simp)
                · obtain rfl : f = 84 := by simp only [FuncId] at *; omega
                  exact absurd (h.symm.trans (by kernel_rfl : codeD (num 84) = none)) (by simp)
              · rcases Nat.lt_or_ge f 86 with h86 | h86
                · obtain rfl : f = 85 := by simp only [FuncId] at *; omega
                  exact absurd (h.symm.trans (by kernel_rfl : codeD (num 85) = none)) (by simp)
                · rcases Nat.lt_or_ge f 87 with h87 | h87
                  · obtain rfl : f = 86 := by simp only [FuncId] at *; omega
                    have e := Option.some.inj (h.symm.trans (by kernel_rfl : codeD (num 86) = some x420)); subst e; exact ok86
                  · obtain rfl : f = 87 := by simp only [FuncId] at *; omega
                    exact absurd (h.symm.trans (by kernel_rfl : codeD (num 87) = none)) (by simp)
            · rcases Nat.lt_or_ge f 90 with h90 | h90
              · rcases Nat.lt_or_ge f 89 with h89 | h89
                · obtain rfl : f = 88 := by simp only [FuncId] at *; omega
                  exact absurd (h.symm.trans (by kernel_rfl : codeD (num 88) = none)) (by simp)
                · obtain rfl : f = 89 := by simp only [FuncId] at *; omega
                  exact absurd (h.symm.trans (by kernel_rfl : codeD (num 89) = none)) (by simp)
              · rcases Nat.lt_or_ge f 91 with h91 | h91
                · obtain rfl : f = 90 := by simp only [FuncId] at *; omega
                  exact absurd (h.symm.trans (by kernel_rfl : codeD (num 90) = none)) (by simp)
                · rcases Nat.lt_or_ge f 92 with h92 | h92
                  · obtain rfl : f = 91 := by simp only [FuncId] at *; omega
                    exact absurd (h.symm.trans (by kernel_rfl : codeD (num 91) = none)) (by simp)
                  · obtain rfl : f = 92 := by simp only [FuncId] at *; omega
                    exact absurd (h.symm.trans (by kernel_rfl : codeD (num 92) = none)) (by simp)
          · rcases Nat.lt_or_ge f 98 with h98 | h98
            · rcases Nat.lt_or_ge f 95 with h95 | h95
              · rcases Nat.lt_or_ge f 94 with h94 | h94
                · obtain rfl : f = 93 := by simp only [FuncId] at *; omega
                  exact absurd (h.symm.trans (by kernel_rfl : codeD (num 93) = none)) (by simp)
                · obtain rfl : f = 94 := by simp only [FuncId] at *; omega
                  exact absurd (h.symm.trans (by kernel_rfl : codeD (num 94) = none)) (by simp)
              · rcases Nat.lt_or_ge f 96 with h96 | h96
                · obtain rfl : f = 95 := by simp only [FuncId] at *; omega
                  exact absurd (h.symm.trans (by kernel_rfl : codeD (num 95) = none)) (by simp)
                · rcases Nat.lt_or_ge f 97 with h97 | h97
                  · obtain rfl : f = 96 := by simp only [FuncId] at *; omega
                    exact absurd (h.symm.trans (by kernel_rfl : codeD (num 96) = none)) (by simp)
                  · obtain rfl : f = 97 := by simp only [FuncId] at *; omega
                    exact absurd (h.symm.trans (by kernel_rfl : codeD (num 97) = none)) (by simp)
            · rcases Nat.lt_or_ge f 101 with h101 | h101
              · rcases Nat.lt_or_ge f 99 with h99 | h99
                · obtain rfl : f = 98 := by simp only [FuncId] at *; omega
                  exact absurd (h.symm.trans (by kernel_rfl : codeD (num 98) = none)) (by simp)
                · rcases Nat.lt_or_ge f 100 with h100 | h100
                  · obtain rfl : f = 99 := by simp only [FuncId] at *; omega
                    exact absurd (h.symm.trans (by kernel_rfl : codeD (num 99) = none)) (by simp)
                  · obtain rfl : f = 100 := by simp only [FuncId] at *; omega
                    exact absurd (h.symm.trans (by kernel_rfl : codeD (num 100) = none)) (by simp)
              · rcases Nat.lt_or_ge f 102 with h102 | h102
                · obtain rfl : f = 101 := by simp only [FuncId] at *; omega
                  exact absurd (h.symm.trans (by kernel_rfl : codeD (num 101) = none)) (by simp)
                · rcases Nat.lt_or_ge f 103 with h103 | h103
                  · obtain rfl : f = 102 := by simp only [FuncId] at *; omega
                    exact absurd (h.symm.trans (by kernel_rfl : codeD (num 102) = none)) (by simp)
                  · obtain rfl : f = 103 := by simp only [FuncId] at *; omega
                    exact absurd (h.symm.trans (by kernel_rfl : codeD (num 103) = none)) (by simp)
        · rcases Nat.lt_or_ge f 114 with h114 | h114
          · rcases Nat.lt_or_ge f 109 with h109 | h109
            · rcases Nat.lt_or_ge f 106 with h106 | h106
              · rcases Nat.lt_or_ge f 105 with h105 | h105
                · obtain rfl : f = 104 := by simp only [FuncId] at *; omega
                  exact absurd (h.symm.trans (by kernel_rfl : codeD (num 104) = none)) (by simp)
                · obtain rfl : f = 105 := by simp only [FuncId] at *; omega
                  exact absurd (h.symm.trans (by kernel_rfl : codeD (num 105) = none)) (by simp)
              · rcases Nat.lt_or_ge f 107 with h107 | h107
                · obtain rfl : f = 106 := by simp only [FuncId] at *; omega
                  have e := Option.some.inj (h.symm.trans (by kernel_rfl : codeD (num 106) = some x400)); subst e; exact ok106
                · rcases Nat.lt_or_ge f 108 with h108 | h108
                  · obtain rfl : f = 107 := by simp only [FuncId] at *; omega
                    exact absurd (h.symm.trans (by kernel_rfl : codeD (num 107) = none)) (by simp)
                  · obtain rfl : f = 108 := by simp only [FuncId] at *; omega
                    exact absurd (h.symm.trans (by kernel_rfl : codeD (num 108) = none)) (by simp)
            · rcases Nat.lt_or_ge f 111 with h111 | h111
              · rcases Nat.lt_or_ge f 110 with h110 | h110
                · obtain rfl : f = 109 := by simp only [FuncId] at *; omega
                  exact absurd (h.symm.trans (by kernel_rfl : codeD (num 109) = none)) (by simp)
                · obtain rfl : f = 110 := by simp only [FuncId] at *; omega
                  exact absurd (h.symm.trans (by kernel_rfl : codeD (num 110) = none)) (by simp)
              · rcases Nat.lt_or_ge f 112 with h112 | h112
                · obtain rfl : f = 111 := by simp only [FuncId] at *; omega
                  exact absurd (h.symm.trans (by kernel_rfl : codeD (num 111) = none)) (by simp)
                · rcases Nat.lt_or_ge f 113 with h113 | h113
                  · obtain rfl : f = 112 := by simp only [FuncId] at *; omega
                    exact absurd (h.symm.trans (by kernel_rfl : codeD (num 112) = none)) (by simp)
                  · obtain rfl : f = 113 := by simp only [FuncId] at *; omega
                    exact absurd (h.symm.trans (by kernel_rfl : codeD (num 113) = none)) (by simp)
          · rcases Nat.lt_or_ge f 119 with h119 | h119
            · rcases Nat.lt_or_ge f 116 with h116 | h116
              · rcases Nat.lt_or_ge f 115 with h115 | h115
                · obtain rfl : f = 114 := by simp only [FuncId] at *; omega
                  exact absurd (h.symm.trans (by kernel_rfl : codeD (num 114) = none)) (by simp)
                · obtain rfl : f = 115 := by simp only [FuncId] at *; omega
                  exact absurd (h.symm.trans (by kernel_rfl : codeD (num 115) = none)) (by simp)
              · rcases Nat.lt_or_ge f 117 with h117 | h117
                · obtain rfl : f = 116 := by simp only [FuncId] at *; omega
                  exact absurd (h.symm.trans (by kernel_rfl : codeD (num 116) = none)) (by simp)
                · rcases Nat.lt_or_ge f 118 with h118 | h118
                  · obtain rfl : f = 117 := by simp only [FuncId] at *; omega
                    exact absurd (h.symm.trans (by kernel_rfl : codeD (num 117) = none)) (by simp)
                  · obtain rfl : f = 118 := by simp only [FuncId] at *; omega
                    exact absurd (h.symm.trans (by kernel_rfl : codeD (num 118) = none)) (by simp)
            · rcases Nat.lt_or_ge f 122 with h122 | h122
              · rcases Nat.lt_or_ge f 120 with h120 | h120
                · obtain rfl : f = 119 := by simp only [FuncId] at *; omega
                  exact absurd (h.symm.trans (by kernel_rfl : codeD (num 119) = none)) (by simp)
                · rcases Nat.lt_or_ge f 121 with h121 | h121
                  · obtain rfl : f = 120 := by simp only [FuncId] at *; omega
                    exact absurd (h.symm.trans (by kernel_rfl : codeD (num 120) = none)) (by simp)
                  · obtain rfl : f = 121 := by simp only [FuncId] at *; omega
                    exact absurd (h.symm.trans (by kernel_rfl : codeD (num 121) = none)) (by simp)
              · rcases Nat.lt_or_ge f 123 with h123 | h123
                · obtain rfl : f = 122 := by simp only [FuncId] at *; omega
                  exact absurd (h.symm.trans (by kernel_rfl : codeD (num 122) = none)) (by simp)
                · rcases Nat.lt_or_ge f 124 with h124 | h124
                  · obtain rfl : f = 123 := by simp only [FuncId] at *; omega
                    have e := Option.some.inj (h.symm.trans (by kernel_rfl : codeD (num 123) = some x307)); subst e; exact ok123
                  · obtain rfl : f = 124 := by simp only [FuncId] at *; omega
                    have e := Option.some.inj (h.symm.trans (by kernel_rfl : codeD (num 124) = some x342)); subst e; exact ok124
      · rcases Nat.lt_or_ge f 146 with h146 | h146
        · rcases Nat.lt_or_ge f 135 with h135 | h135
          · rcases Nat.lt_or_ge f 130 with h130 | h130
            · rcases Nat.lt_or_ge f 127 with h127 | h127
              · rcases Nat.lt_or_ge f 126 with h126 | h126
                · obtain rfl : f = 125 := by simp only [FuncId] at *; omega
                  have e := Option.some.inj (h.symm.trans (by kernel_rfl : codeD (num 125) = some x308)); subst e; exact ok125
                · obtain rfl : f = 126 := by simp only [FuncId] at *; omega
                  have e := Option.some.inj (h.symm.trans (by kernel_rfl : codeD (num 126) = some x764)); subst e; exact ok126
              · rcases Nat.lt_or_ge f 128 with h128 | h128
                · obtain rfl : f = 127 := by simp only [FuncId] at *; omega
                  have e := Option.some.inj (h.symm.trans (by kernel_rfl : codeD (num 127) = some x422)); subst e; exact ok127
                · rcases Nat.lt_or_ge f 129 with h129 | h129
                  · obtain rfl : f = 128 := by simp only [FuncId] at *; omega
                    have e := Option.some.inj (h.symm.trans (by kernel_rfl : codeD (num 128) = some x319)); subst e; exact ok128
                  · obtain rfl : f = 129 := by simp only [FuncId] at *; omega
                    have e := Option.some.inj (h.symm.trans (by kernel_rfl : codeD (num 129) = some x337)); subst e; exact ok129
            · rcases Nat.lt_or_ge f 132 with h132 | h132
              · rcases Nat.lt_or_ge f 131 with h131 | h131
                · obtain rfl : f = 130 := by simp only [FuncId] at *; omega
                  exact absurd (h.symm.trans (by kernel_rfl : codeD (num 130) = none)) (by simp)
                · obtain rfl : f = 131 := by simp only [FuncId] at *; omega
                  exact absurd (h.symm.trans (by kernel_rfl : codeD (num 131) = none)) (by simp)
              · rcases Nat.lt_or_ge f 133 with h133 | h133
                · obtain rfl : f = 132 := by simp only [FuncId] at *; omega
                  exact absurd (h.symm.trans (by kernel_rfl : codeD (num 132) = none)) (by simp)
                · rcases Nat.lt_or_ge f 134 with h134 | h134
                  · obtain rfl : f = 133 := by simp only [FuncId] at *; omega
                    exact absurd (h.symm.trans (by kernel_rfl : codeD (num 133) = none)) (by simp)
                  · obtain rfl : f = 134 := by simp only [FuncId] at *; omega
                    exact absurd (h.symm.trans (by kernel_rfl : codeD (num 134) = none)) (by simp)
          · rcases Nat.lt_or_ge f 140 with h140 | h140
            · rcases Nat.lt_or_ge f 137 with h137 | h137
              · rcases Nat.lt_or_ge f 136 with h136 | h136
                · obtain rfl : f = 135 := by simp only [FuncId] at *; omega
                  exact absurd (h.symm.trans (by kernel_rfl : codeD (num 135) = none)) (by simp)
                · obtain rfl : f = 136 := by simp only [FuncId] at *; omega
                  exact absurd (h.symm.trans (by kernel_rfl : codeD (num 136) = none)) (by simp)
              · rcases Nat.lt_or_ge f 138 with h138 | h138
                · obtain rfl : f = 137 := by simp only [FuncId] at *; omega
                  exact absurd (h.symm.trans (by kernel_rfl : codeD (num 137) = none)) (by simp)
                · rcases Nat.lt_or_ge f 139 with h139 | h139
                  · obtain rfl : f = 138 := by simp only [FuncId] at *; omega
                    exact absurd (h.symm.trans (by kernel_rfl : codeD (num 138) = none)) (by simp)
                  · obtain rfl : f = 139 := by simp only [FuncId] at *; omega
                    exact absurd (h.symm.trans (by kernel_rfl : codeD (num 139) = none)) (by simp)
            · rcases Nat.lt_or_ge f 143 with h143 | h143
              · rcases Nat.lt_or_ge f 141 with h141 | h141
                · obtain rfl : f = 140 := by simp only [FuncId] at *; omega
                  exact absurd (h.symm.trans (by kernel_rfl : codeD (num 140) = none)) (by simp)
                · rcases Nat.lt_or_ge f 142 with h142 | h142
                  · obtain rfl : f = 141 := by simp only [FuncId] at *; omega
                    exact absurd (h.symm.trans (by kernel_rfl : codeD (num 141) = none)) (by simp)
                  · obtain rfl : f = 142 := by simp only [FuncId] at *; omega
                    exact absurd (h.symm.trans (by kernel_rfl : codeD (num 142) = none)) (by simp)
              · rcases Nat.lt_or_ge f 144 with h144 | h144
                · obtain rfl : f = 143 := by simp only [FuncId] at *; omega
                  exact absurd (h.symm.trans (by kernel_rfl : codeD (num 143) = none)) (by simp)
                · rcases Nat.lt_or_ge f 145 with h145 | h145
                  · obtain rfl : f = 144 := by simp only [FuncId] at *; omega
                    exact absurd (h.symm.trans (by kernel_rfl : codeD (num 144) = none)) (by simp)
                  · obtain rfl : f = 145 := by simp only [FuncId] at *; omega
                    exact absurd (h.symm.trans (by kernel_rfl : codeD (num 145) = none)) (by simp)
        · rcases Nat.lt_or_ge f 156 with h156 | h156
          · rcases Nat.lt_or_ge f 151 with h151 | h151
            · rcases Nat.lt_or_ge f 148 with h148 | h148
              · rcases Nat.lt_or_ge f 147 with h147 | h147
                · obtain rfl : f = 146 := by simp only [FuncId] at *; omega
                  exact absurd (h.symm.trans (by kernel_rfl : codeD (num 146) = none)) (by simp)
                · obtain rfl : f = 147 := by simp only [FuncId] at *; omega
                  exact absurd (h.symm.trans (by kernel_rfl : codeD (num 147) = none)) (by simp)
              · rcases Nat.lt_or_ge f 149 with h149 | h149
                · obtain rfl : f = 148 := by simp only [FuncId] at *; omega
                  exact absurd (h.symm.trans (by kernel_rfl : codeD (num 148) = none)) (by simp)
                · rcases Nat.lt_or_ge f 150 with h150 | h150
                  · obtain rfl : f = 149 := by simp only [FuncId] at *; omega
                    exact absurd (h.symm.trans (by kernel_rfl : codeD (num 149) = none)) (by simp)
                  · obtain rfl : f = 150 := by simp only [FuncId] at *; omega
                    exact absurd (h.symm.trans (by kernel_rfl : codeD (num 150) = none)) (by simp)
            · rcases Nat.lt_or_ge f 153 with h153 | h153
              · rcases Nat.lt_or_ge f 152 with h152 | h152
                · obtain rfl : f = 151 := by simp only [FuncId] at *; omega
                  exact absurd (h.symm.trans (by kernel_rfl : codeD (num 151) = none)) (by simp)
                · obtain rfl : f = 152 := by simp only [FuncId] at *; omega
                  exact absurd (h.symm.trans (by kernel_rfl : codeD (num 152) = none)) (by simp)
              · rcases Nat.lt_or_ge f 154 with h154 | h154
                · obtain rfl : f = 153 := by simp only [FuncId] at *; omega
                  exact absurd (h.symm.trans (by kernel_rfl : codeD (num 153) = none)) (by simp)
                · rcases Nat.lt_or_ge f 155 with h155 | h155
                  · obtain rfl : f = 154 := by simp only [FuncId] at *; omega
                    exact absurd (h.symm.trans (by kernel_rfl : codeD (num 154) = none)) (by simp)
                  · obtain rfl : f = 155 := by simp only [FuncId] at *; omega
                    exact absurd (h.symm.trans (by kernel_rfl : codeD (num 155) = none)) (by simp)
          · rcases Nat.lt_or_ge f 161 with h161 | h161
            · rcases Nat.lt_or_ge f 158 with h158 | h158
              · rcases Nat.lt_or_ge f 157 with h157 | h157
                · obtain rfl : f = 156 := by simp only [FuncId] at *; omega
                  exact absurd (h.symm.trans (by kernel_rfl : codeD (num 156) = none)) (by simp)
                · obtain rfl : f = 157 := by simp only [FuncId] at *; omega
                  exact absurd (h.symm.trans (by kernel_rfl : codeD (num 157) = none)) (by simp)
              · rcases Nat.lt_or_ge f 159 with h159 | h159
                · obtain rfl : f = 158 := by simp only [FuncId] at *; omega
                  exact absurd (h.symm.trans (by kernel_rfl : codeD (num 158) = none)) (by simp)
                · rcases Nat.lt_or_ge f 160 with h160 | h160
                  · obtain rfl : f = 159 := by simp only [FuncId] at *; omega
                    exact absurd (h.symm.trans (by kernel_rfl : codeD (num 159) = none)) (by simp)
                  · obtain rfl : f = 160 := by simp only [FuncId] at *; omega
                    exact absurd (h.symm.trans (by kernel_rfl : codeD (num 160) = none)) (by simp)
            · rcases Nat.lt_or_ge f 164 with h164 | h164
              · rcases Nat.lt_or_ge f 162 with h162 | h162
                · obtain rfl : f = 161 := by simp only [FuncId] at *; omega
                  exact absurd (h.symm.trans (by kernel_rfl : codeD (num 161) = none)) (by simp)
                · rcases Nat.lt_or_ge f 163 with h163 | h163
                  · obtain rfl : f = 162 := by simp only [FuncId] at *; omega
                    exact absurd (h.symm.trans (by kernel_rfl : codeD (num 162) = none)) (by simp)
                  · obtain rfl : f = 163 := by simp only [FuncId] at *; omega
                    exact absurd (h.symm.trans (by kernel_rfl : codeD (num 163) = none)) (by simp)
              · rcases Nat.lt_or_ge f 165 with h165 | h165
                · obtain rfl : f = 164 := by simp only [FuncId] at *; omega
                  exact absurd (h.symm.trans (by kernel_rfl : codeD (num 164) = none)) (by simp)
                · rcases Nat.lt_or_ge f 166 with h166 | h166
                  · obtain rfl : f = 165 := by simp only [FuncId] at *; omega
                    exact absurd (h.symm.trans (by kernel_rfl : codeD (num 165) = none)) (by simp)
                  · obtain rfl : f = 166 := by simp only [FuncId] at *; omega
                    exact absurd (h.symm.trans (by kernel_rfl : codeD (num 166) = none)) (by simp)
  · have hn : num f = 100000 + f := by
      unfold num
      rw [List.getElem?_eq_none (by rw [show gids.length = 167 from by kernel_rfl]; simp only [FuncId] at *; omega)]; rfl
    rw [hn] at h
    unfold codeD at h
    split at h <;> first | (exfalso; simp only [FuncId] at *; omega) | cases h

theorem runs : Runs Tryz.prog num codeD (fun _ _ _ => none) := ⟨by kernel_rfl, fns, none_ok⟩

end Go.Proofs.YtmghegmjiagkgaaGreatDoor

