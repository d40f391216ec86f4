import Derived.Test.YtkmdbfhagicidaaGreatDoorRows
import Derived.Test.YtkmdbfhagicidaaGreatDoorK8
import Derived.Test.YtkmdbfhagicidaaGreatDoorK9
import Derived.Test.YtkmdbfhagicidaaGreatDoorPi
import Derived.Test.YtkmdbfhagicidaaGreatDoorK11
import Derived.Test.YtkmdbfhagicidaaGreatDoorTie
import Derived.Test.YtkmdbfhagicidaaGreatDoorCards
import Derived.ProofKit
import Derived.LaidMore
import Derived.OpenShut
import Derived.Stop.Joined
import Derived.Stop.LaidErr
import Derived.JoinedOf
import Derived.SizedLaws
import Derived.SevenTiedAt
import Derived.Lib.LaidTab
import Derived.Lib.ItoaMem
import Derived.Lib.ItoaLen
namespace Go.Proofs.YtkmdbfhagicidaaGreatDoor
open Go.EX Go.Shelf
def gids : List Nat := [100000, 100001, 703, 452, 568, 512, 358, 15, 1, 189, 194, 519, 65, 25, 29, 33, 34, 28, 24, 18, 17, 23, 22, 21, 32, 35, 30, 26, 20, 19, 27, 16, 31, 45, 49, 53, 54, 48, 44, 38, 37, 43, 42, 41, 52, 55, 50, 46, 40, 39, 47, 36, 51, 75, 79, 83, 84, 78, 74, 68, 67, 73, 72, 71, 82, 85, 80, 76, 70, 69, 77, 66, 81, 188, 190, 798, 191, 192, 569, 570, 195, 793, 787, 785, 571, 796, 518, 513, 516, 515, 514, 517, 411, 415, 419, 420, 414, 410, 404, 403, 409, 408, 407, 418, 421, 416, 412, 406, 405, 413, 402, 417, 391, 395, 399, 400, 394, 390, 384, 383, 389, 388, 387, 398, 401, 396, 392, 386, 385, 393, 382, 397, 725, 673, 193, 670, 669, 672, 721, 710, 792, 708, 723, 422, 674, 711, 791, 790, 788, 789, 719, 718, 713, 714, 786, 100155, 717, 720, 702, 716, 732, 712, 715, 733, 709, 734, 735, 100167, 100168, 100169, 100170, 100171, 100172, 100173, 100174, 100175, 100176, 100177, 100178, 100179, 100180, 100181, 100182, 100183, 100184, 100185, 100186, 100187, 100188, 100189, 100190, 100191, 100192, 100193, 100194, 704]
def num (f : FuncId) : Nat := (gids[f]?).getD (100000 + f)
theorem ok3 : FunOK Tryz.prog num 3 x452Z := .of Tryz.func3 (by kernel_rfl) (by kernel_rfl) (by kernel_rfl) (by kernel_rfl) (by kernel_rfl)
theorem ok4 : FunOK Tryz.prog num 4 x568 := .of Tryz.func4 (by kernel_rfl) (by kernel_rfl) (by kernel_rfl) (by kernel_rfl) (by kernel_rfl)
theorem ok5 : FunOK Tryz.prog num 5 x512 := .of Tryz.func5 (by kernel_rfl) (by kernel_rfl) (by kernel_rfl) (by kernel_rfl) (by kernel_rfl)
theorem ok6 : FunOK Tryz.prog num 6 x358 := .of Tryz.func6 (by kernel_rfl) (by kernel_rfl) (by kernel_rfl) (by kernel_rfl) (by kernel_rfl)
theorem ok7 : FunOK Tryz.prog num 7 x15 := .of Tryz.func7 (by kernel_rfl) (by kernel_rfl) (by kernel_rfl) (by kernel_rfl) (by kernel_rfl)
theorem ok8 : FunOK Tryz.prog num 8 x1 := .of Tryz.func8 (by kernel_rfl) (by kernel_rfl) (by kernel_rfl) (by kernel_rfl) (by kernel_rfl)
theorem ok9 : FunOK Tryz.prog num 9 x189 := .of Tryz.func9 (by kernel_rfl) (by kernel_rfl) (by kernel_rfl) (by kernel_rfl) (by kernel_rfl)
theorem ok10 : FunOK Tryz.prog num 10 x194 := .of Tryz.func10 (by kernel_rfl) (by kernel_rfl) (by kernel_rfl) (by kernel_rfl) (by kernel_rfl)
theorem ok11 : FunOK Tryz.prog num 11 x519 := .of Tryz.func11 (by kernel_rfl) (by kernel_rfl) (by kernel_rfl) (by kernel_rfl) (by kernel_rfl)
theorem ok12 : FunOK Tryz.prog num 12 x65 := .of Tryz.func12 (by kernel_rfl) (by kernel_rfl) (by kernel_rfl) (by kernel_rfl) (by kernel_rfl)
theorem ok13 : FunOK Tryz.prog num 13 x25 := .of Tryz.func13 (by kernel_rfl) (by kernel_rfl) (by kernel_rfl) (by kernel_rfl) (by kernel_rfl)
theorem ok14 : FunOK Tryz.prog num 14 x29 := .of Tryz.func14 (by kernel_rfl) (by kernel_rfl) (by kernel_rfl) (by kernel_rfl) (by kernel_rfl)
theorem ok15 : FunOK Tryz.prog num 15 x33 := .of Tryz.func15 (by kernel_rfl) (by kernel_rfl) (by kernel_rfl) (by kernel_rfl) (by kernel_rfl)
theorem ok16 : FunOK Tryz.prog num 16 x34 := .of Tryz.func16 (by kernel_rfl) (by kernel_rfl) (by kernel_rfl) (by kernel_rfl) (by kernel_rfl)
theorem ok17 : FunOK Tryz.prog num 17 x28 := .of Tryz.func17 (by kernel_rfl) (by kernel_rfl) (by kernel_rfl) (by kernel_rfl) (by kernel_rfl)
theorem ok18 : FunOK Tryz.prog num 18 x24 := .of Tryz.func18 (by kernel_rfl) (by kernel_rfl) (by kernel_rfl) (by kernel_rfl) (by kernel_rfl)
theorem ok19 : FunOK Tryz.prog num 19 x18 := .of Tryz.func19 (by kernel_rfl) (by kernel_rfl) (by kernel_rfl) (by kernel_rfl) (by kernel_rfl)
theorem ok20 : FunOK Tryz.prog num 20 x17 := .of Tryz.func20 (by kernel_rfl) (by kernel_rfl) (by kernel_rfl) (by kernel_rfl) (by kernel_rfl)
theorem ok21 : FunOK Tryz.prog num 21 x23 := .of Tryz.func21 (by kernel_rfl) (by kernel_rfl) (by kernel_rfl) (by kernel_rfl) (by kernel_rfl)
theorem ok22 : FunOK Tryz.prog num 22 x22 := .of Tryz.func22 (by kernel_rfl) (by kernel_rfl) (by kernel_rfl) (by kernel_rfl) (by kernel_rfl)
theorem ok23 : FunOK Tryz.prog num 23 x21 := .of Tryz.func23 (by kernel_rfl) (by kernel_rfl) (by kernel_rfl) (by kernel_rfl) (by kernel_rfl)
theorem ok24 : FunOK Tryz.prog num 24 x32 := .of Tryz.func24 (by kernel_rfl) (by kernel_rfl) (by kernel_rfl) (by kernel_rfl) (by kernel_rfl)
theorem ok25 : FunOK Tryz.prog num 25 x35 := .of Tryz.func25 (by kernel_rfl) (by kernel_rfl) (by kernel_rfl) (by kernel_rfl) (by kernel_rfl)
theorem ok26 : FunOK Tryz.prog num 26 x30 := .of Tryz.func26 (by kernel_rfl) (by kernel_rfl) (by kernel_rfl) (by kernel_rfl) (by kernel_rfl)
theorem ok27 : FunOK Tryz.prog num 27 x26 := .of Tryz.func27 (by kernel_rfl) (by kernel_rfl) (by kernel_rfl) (by kernel_rfl) (by kernel_rfl)
theorem ok28 : FunOK Tryz.prog num 28 x20 := .of Tryz.func28 (by kernel_rfl) (by kernel_rfl) (by kernel_rfl) (by kernel_rfl) (by kernel_rfl)
theorem ok29 : FunOK Tryz.prog num 29 x19 := .of Tryz.func29 (by kernel_rfl) (by kernel_rfl) (by kernel_rfl) (by kernel_rfl) (by kernel_rfl)
theorem ok30 : FunOK Tryz.prog num 30 x27 := .of Tryz.func30 (by kernel_rfl) (by kernel_rfl) (by kernel_rfl) (by kernel_rfl) (by kernel_rfl)
theorem ok31 : FunOK Tryz.prog num 31 x16 := .of Tryz.func31 (by kernel_rfl) (by kernel_rfl) (by kernel_rfl) (by kernel_rfl) (by kernel_rfl)
theorem ok32 : FunOK Tryz.prog num 32 x31 := .of Tryz.func32 (by kernel_rfl) (by kernel_rfl) (by kernel_rfl) (by kernel_rfl) (by kernel_rfl)
theorem ok33 : FunOK Tryz.prog num 33 x45 := .of Tryz.func33 (by kernel_rfl) (by kernel_rfl) (by kernel_rfl) (by kernel_rfl) (by kernel_rfl)
theorem ok34 : FunOK Tryz.prog num 34 x49 := .of Tryz.func34 (by kernel_rfl) (by kernel_rfl) (by kernel_rfl) (by kernel_rfl) (by kernel_rfl)
theorem ok35 : FunOK Tryz.prog num 35 x53 := .of Tryz.func35 (by kernel_rfl) (by kernel_rfl) (by kernel_rfl) (by kernel_rfl) (by kernel_rfl)
theorem ok36 : FunOK Tryz.prog num 36 x54 := .of Tryz.func36 (by kernel_rfl) (by kernel_rfl) (by kernel_rfl) (by kernel_rfl) (by kernel_rfl)
theorem ok37 : FunOK Tryz.prog num 37 x48 := .of Tryz.func37 (by kernel_rfl) (by kernel_rfl) (by kernel_rfl) (by kernel_rfl) (by kernel_rfl)
theorem ok38 : FunOK Tryz.prog num 38 x44 := .of Tryz.func38 (by kernel_rfl) (by kernel_rfl) (by kernel_rfl) (by kernel_rfl) (by kernel_rfl)
theorem ok39 : FunOK Tryz.prog num 39 x38 := .of Tryz.func39 (by kernel_rfl) (by kernel_rfl) (by kernel_rfl) (by kernel_rfl) (by kernel_rfl)
theorem ok40 : FunOK Tryz.prog num 40 x37 := .of Tryz.func40 (by kernel_rfl) (by kernel_rfl) (by kernel_rfl) (by kernel_rfl) (by kernel_rfl)
theorem ok41 : FunOK Tryz.prog num 41 x43 := .of Tryz.func41 (by kernel_rfl) (by kernel_rfl) (by kernel_rfl) (by kernel_rfl) (by kernel_rfl)
theorem ok42 : FunOK Tryz.prog num 42 x42 := .of Tryz.func42 (by kernel_rfl) (by kernel_rfl) (by kernel_rfl) (by kernel_rfl) (by kernel_rfl)
theorem ok43 : FunOK Tryz.prog num 43 x41 := .of Tryz.func43 (by kernel_rfl) (by kernel_rfl) (by kernel_rfl) (by kernel_rfl) (by kernel_rfl)
theorem ok44 : FunOK Tryz.prog num 44 x52 := .of Tryz.func44 (by kernel_rfl) (by kernel_rfl) (by kernel_rfl) (by kernel_rfl) (by kernel_rfl)
theorem ok45 : FunOK Tryz.prog num 45 x55 := .of Tryz.func45 (by kernel_rfl) (by kernel_rfl) (by kernel_rfl) (by kernel_rfl) (by kernel_rfl)
theorem ok46 : FunOK Tryz.prog num 46 x50 := .of Tryz.func46 (by kernel_rfl) (by kernel_rfl) (by kernel_rfl) (by kernel_rfl) (by kernel_rfl)
theorem ok47 : FunOK Tryz.prog num 47 x46 := .of Tryz.func47 (by kernel_rfl) (by kernel_rfl) (by kernel_rfl) (by kernel_rfl) (by kernel_rfl)
theorem ok48 : FunOK Tryz.prog num 48 x40 := .of Tryz.func48 (by kernel_rfl) (by kernel_rfl) (by kernel_rfl) (by kernel_rfl) (by kernel_rfl)
theorem ok49 : FunOK Tryz.prog num 49 x39 := .of Tryz.func49 (by kernel_rfl) (by kernel_rfl) (by kernel_rfl) (by kernel_rfl) (by kernel_rfl)
theorem ok50 : FunOK Tryz.prog num 50 x47 := .of Tryz.func50 (by kernel_rfl) (by kernel_rfl) (by kernel_rfl) (by kernel_rfl) (by kernel_rfl)
theorem ok51 : FunOK Tryz.prog num 51 x36 := .of Tryz.func51 (by kernel_rfl) (by kernel_rfl) (by kernel_rfl) (by kernel_rfl) (by kernel_rfl)
theorem ok52 : FunOK Tryz.prog num 52 x51 := .of Tryz.func52 (by kernel_rfl) (by kernel_rfl) (by kernel_rfl) (by kernel_rfl) (by kernel_rfl)
theorem ok53 : FunOK Tryz.prog num 53 x75 := .of Tryz.func53 (by kernel_rfl) (by kernel_rfl) (by kernel_rfl) (by kernel_rfl) (by kernel_rfl)
theorem ok54 : FunOK Tryz.prog num 54 x79 := .of Tryz.func54 (by kernel_rfl) (by kernel_rfl) (by kernel_rfl) (by kernel_rfl) (by kernel_rfl)
theorem ok55 : FunOK Tryz.prog num 55 x83 := .of Tryz.func55 (by kernel_rfl) (by kernel_rfl) (by kernel_rfl) (by kernel_rfl) (by kernel_rfl)
theorem ok56 : FunOK Tryz.prog num 56 x84 := .of Tryz.func56 (by kernel_rfl) (by kernel_rfl) (by kernel_rfl) (by kernel_rfl) (by kernel_rfl)
theorem ok57 : FunOK Tryz.prog num 57 x78 := .of Tryz.func57 (by kernel_rfl) (by kernel_rfl) (by kernel_rfl) (by kernel_rfl) (by kernel_rfl)
theorem ok58 : FunOK Tryz.prog num 58 x74 := .of Tryz.func58 (by kernel_rfl) (by kernel_rfl) (by kernel_rfl) (by kernel_rfl) (by kernel_rfl)
theorem ok59 : FunOK Tryz.prog num 59 x68 := .of Tryz.func59 (by kernel_rfl) (by kernel_rfl) (by kernel_rfl) (by kernel_rfl) (by kernel_rfl)
theorem ok60 : FunOK Tryz.prog num 60 x67 := .of Tryz.func60 (by kernel_rfl) (by kernel_rfl) (by kernel_rfl) (by kernel_rfl) (by kernel_rfl)
theorem ok61 : FunOK Tryz.prog num 61 x73 := .of Tryz.func61 (by kernel_rfl) (by kernel_rfl) (by kernel_rfl) (by kernel_rfl) (by kernel_rfl)
theorem ok62 : FunOK Tryz.prog num 62 x72 := .of Tryz.func62 (by kernel_rfl) (by kernel_rfl) (by kernel_rfl) (by kernel_rfl) (by kernel_rfl)
theorem ok63 : FunOK Tryz.prog num 63 x71 := .of Tryz.func63 (by kernel_rfl) (by kernel_rfl) (by kernel_rfl) (by kernel_rfl) (by kernel_rfl)
theorem ok64 : FunOK Tryz.prog num 64 x82 := .of Tryz.func64 (by kernel_rfl) (by kernel_rfl) (by kernel_rfl) (by kernel_rfl) (by kernel_rfl)
theorem ok65 : FunOK Tryz.prog num 65 x85 := .of Tryz.func65 (by kernel_rfl) (by kernel_rfl) (by kernel_rfl) (by kernel_rfl) (by kernel_rfl)
theorem ok66 : FunOK Tryz.prog num 66 x80 := .of Tryz.func66 (by kernel_rfl) (by kernel_rfl) (by kernel_rfl) (by kernel_rfl) (by kernel_rfl)
theorem ok67 : FunOK Tryz.prog num 67 x76 := .of Tryz.func67 (by kernel_rfl) (by kernel_rfl) (by kernel_rfl) (by kernel_rfl) (by kernel_rfl)
theorem ok68 : FunOK Tryz.prog num 68 x70 := .of Tryz.func68 (by kernel_rfl) (by kernel_rfl) (by kernel_rfl) (by kernel_rfl) (by kernel_rfl)
theorem ok69 : FunOK Tryz.prog num 69 x69 := .of Tryz.func69 (by kernel_rfl) (by kernel_rfl) (by kernel_rfl) (by kernel_rfl) (by kernel_rfl)
theorem ok70 : FunOK Tryz.prog num 70 x77 := .of Tryz.func70 (by kernel_rfl) (by kernel_rfl) (by kernel_rfl) (by kernel_rfl) (by kernel_rfl)
theorem ok71 : FunOK Tryz.prog num 71 x66 := .of Tryz.func71 (by kernel_rfl) (by kernel_rfl) (by kernel_rfl) (by kernel_rfl) (by kernel_rfl)
theorem ok72 : FunOK Tryz.prog num 72 x81 := .of Tryz.func72 (by kernel_rfl) (by kernel_rfl) (by kernel_rfl) (by kernel_rfl) (by kernel_rfl)
theorem ok73 : FunOK Tryz.prog num 73 x188 := .of Tryz.func73 (by kernel_rfl) (by kernel_rfl) (by kernel_rfl) (by kernel_rfl) (by kernel_rfl)
theorem ok74 : FunOK Tryz.prog num 74 x190 := .of Tryz.func74 (by kernel_rfl) (by kernel_rfl) (by kernel_rfl) (by kernel_rfl) (by kernel_rfl)
theorem ok75 : FunOK Tryz.prog num 75 x798 := .of Tryz.func75 (by kernel_rfl) (by kernel_rfl) (by kernel_rfl) (by kernel_rfl) (by kernel_rfl)
theorem ok76 : FunOK Tryz.prog num 76 x191 := .of Tryz.func76 (by kernel_rfl) (by kernel_rfl) (by kernel_rfl) (by kernel_rfl) (by kernel_rfl)
theorem ok77 : FunOK Tryz.prog num 77 x192 := .of Tryz.func77 (by kernel_rfl) (by kernel_rfl) (by kernel_rfl) (by kernel_rfl) (by kernel_rfl)
theorem ok78 : FunOK Tryz.prog num 78 x569 := .of Tryz.func78 (by kernel_rfl) (by kernel_rfl) (by kernel_rfl) (by kernel_rfl) (by kernel_rfl)
theorem ok79 : FunOK Tryz.prog num 79 x570 := .of Tryz.func79 (by kernel_rfl) (by kernel_rfl) (by kernel_rfl) (by kernel_rfl) (by kernel_rfl)
theorem ok80 : FunOK Tryz.prog num 80 x195 := .of Tryz.func80 (by kernel_rfl) (by kernel_rfl) (by kernel_rfl) (by kernel_rfl) (by kernel_rfl)
theorem ok81 : FunOK Tryz.prog num 81 x793 := .of Tryz.func81 (by kernel_rfl) (by kernel_rfl) (by kernel_rfl) (by kernel_rfl) (by kernel_rfl)
theorem ok83 : FunOK Tryz.prog num 83 x785 := .of Tryz.func83 (by kernel_rfl) (by kernel_rfl) (by kernel_rfl) (by kernel_rfl) (by kernel_rfl)
theorem ok84 : FunOK Tryz.prog num 84 x571 := .of Tryz.func84 (by kernel_rfl) (by kernel_rfl) (by kernel_rfl) (by kernel_rfl) (by kernel_rfl)
theorem ok85 : FunOK Tryz.prog num 85 x796 := .of Tryz.func85 (by kernel_rfl) (by kernel_rfl) (by kernel_rfl) (by kernel_rfl) (by kernel_rfl)
theorem ok86 : FunOK Tryz.prog num 86 x518 := .of Tryz.func86 (by kernel_rfl) (by kernel_rfl) (by kernel_rfl) (by kernel_rfl) (by kernel_rfl)
theorem ok87 : FunOK Tryz.prog num 87 x513 := .of Tryz.func87 (by kernel_rfl) (by kernel_rfl) (by kernel_rfl) (by kernel_rfl) (by kernel_rfl)
theorem ok88 : FunOK Tryz.prog num 88 x516 := .of Tryz.func88 (by kernel_rfl) (by kernel_rfl) (by kernel_rfl) (by kernel_rfl) (by kernel_rfl)
theorem ok89 : FunOK Tryz.prog num 89 x515 := .of Tryz.func89 (by kernel_rfl) (by kernel_rfl) (by kernel_rfl) (by kernel_rfl) (by kernel_rfl)
theorem ok90 : FunOK Tryz.prog num 90 x514 := .of Tryz.func90 (by kernel_rfl) (by kernel_rfl) (by kernel_rfl) (by kernel_rfl) (by kernel_rfl)
theorem ok91 : FunOK Tryz.prog num 91 x517 := .of Tryz.func91 (by kernel_rfl) (by kernel_rfl) (by kernel_rfl) (by kernel_rfl) (by kernel_rfl)
theorem ok104 : FunOK Tryz.prog num 104 x421 := .of Tryz.func104 (by kernel_rfl) (by kernel_rfl) (by kernel_rfl) (by kernel_rfl) (by kernel_rfl)
theorem ok124 : FunOK Tryz.prog num 124 x401 := .of Tryz.func124 (by kernel_rfl) (by kernel_rfl) (by kernel_rfl) (by kernel_rfl) (by kernel_rfl)
theorem ok132 : FunOK Tryz.prog num 132 x725 := .of Tryz.func132 (by kernel_rfl) (by kernel_rfl) (by kernel_rfl) (by kernel_rfl) (by kernel_rfl)
theorem ok133 : FunOK Tryz.prog num 133 x673 := .of Tryz.func133 (by kernel_rfl) (by kernel_rfl) (by kernel_rfl) (by kernel_rfl) (by kernel_rfl)
theorem ok134 : FunOK Tryz.prog num 134 x193 := .of Tryz.func134 (by kernel_rfl) (by kernel_rfl) (by kernel_rfl) (by kernel_rfl) (by kernel_rfl)
theorem ok136 : FunOK Tryz.prog num 136 x669 := .of Tryz.func136 (by kernel_rfl) (by kernel_rfl) (by kernel_rfl) (by kernel_rfl) (by kernel_rfl)
theorem ok137 : FunOK Tryz.prog num 137 x672 := .of Tryz.func137 (by kernel_rfl) (by kernel_rfl) (by kernel_rfl) (by kernel_rfl) (by kernel_rfl)
theorem ok142 : FunOK Tryz.prog num 142 x723 := .of Tryz.func142 (by kernel_rfl) (by kernel_rfl) (by kernel_rfl) (by kernel_rfl) (by kernel_rfl)
theorem ok143 : FunOK Tryz.prog num 143 x422 := .of Tryz.func143 (by kernel_rfl) (by kernel_rfl) (by kernel_rfl) (by kernel_rfl) (by kernel_rfl)
theorem ok154 : FunOK Tryz.prog num 154 x786 := .of Tryz.func154 (by kernel_rfl) (by kernel_rfl) (by kernel_rfl) (by kernel_rfl) (by kernel_rfl)
theorem ok164 : FunOK Tryz.prog num 164 x709 := .of Tryz.func164 (by kernel_rfl) (by kernel_rfl) (by kernel_rfl) (by kernel_rfl) (by kernel_rfl)
abbrev FnAt (f : Nat) : Prop := ∀ xf, code5z (num f) = some xf → FunOK Tryz.prog num f xf
theorem hit {n : Nat} {x : XFun} (e : code5z (num n) = some x) (k : FunOK Tryz.prog num n x) (r : ∀ f, f < n → FnAt f) : ∀ f, f < n + 1 → FnAt f := fun f h xf hx => by
 rcases Nat.lt_or_eq_of_le (Nat.le_of_lt_succ h) with h | rfl
 ·exact r f h xf hx
 ·rw [e] at hx; cases hx; exact k
theorem nix {n : Nat} (e : code5z (num n) = none) (r : ∀ f, f < n → FnAt f) : ∀ f, f < n + 1 → FnAt f := fun f h xf hx => by
 rcases Nat.lt_or_eq_of_le (Nat.le_of_lt_succ h) with h | rfl
 ·exact r f h xf hx
 ·rw [e] at hx; cases hx
theorem upto20 : ∀ f, f < 20 → FnAt f :=
 hit (by kernel_rfl) ok19 <|
 hit (by kernel_rfl) ok18 <|
 hit (by kernel_rfl) ok17 <|
 hit (by kernel_rfl) ok16 <|
 hit (by kernel_rfl) ok15 <|
 hit (by kernel_rfl) ok14 <|
 hit (by kernel_rfl) ok13 <|
 hit (by kernel_rfl) ok12 <|
 hit (by kernel_rfl) ok11 <|
 hit (by kernel_rfl) ok10 <|
 hit (by kernel_rfl) ok9 <|
 hit (by kernel_rfl) ok8 <|
 hit (by kernel_rfl) ok7 <|
 hit (by kernel_rfl) ok6 <|
 hit (by kernel_rfl) ok5 <|
 hit (by kernel_rfl) ok4 <|
 hit (by kernel_rfl) ok3 <|
 nix (by kernel_rfl) <|
 nix (by kernel_rfl) <|
 nix (by kernel_rfl) (fun f h => absurd h (Nat.not_lt_zero f))
theorem upto40 : ∀ f, f < 40 → FnAt f :=
 hit (by kernel_rfl) ok39 <|
 hit (by kernel_rfl) ok38 <|
 hit (by kernel_rfl) ok37 <|
 hit (by kernel_rfl) ok36 <|
 hit (by kernel_rfl) ok35 <|
 hit (by kernel_rfl) ok34 <|
 hit (by kernel_rfl) ok33 <|
 hit (by kernel_rfl) ok32 <|
 hit (by kernel_rfl) ok31 <|
 hit (by kernel_rfl) ok30 <|
 hit (by kernel_rfl) ok29 <|
 hit (by kernel_rfl) ok28 <|
 hit (by kernel_rfl) ok27 <|
 hit (by kernel_rfl) ok26 <|
 hit (by kernel_rfl) ok25 <|
 hit (by kernel_rfl) ok24 <|
 hit (by kernel_rfl) ok23 <|
 hit (by kernel_rfl) ok22 <|
 hit (by kernel_rfl) ok21 <|
 hit (by kernel_rfl) ok20 upto20
theorem upto60 : ∀ f, f < 60 → FnAt f :=
 hit (by kernel_rfl) ok59 <|
 hit (by kernel_rfl) ok58 <|
 hit (by kernel_rfl) ok57 <|
 hit (by kernel_rfl) ok56 <|
 hit (by kernel_rfl) ok55 <|
 hit (by kernel_rfl) ok54 <|
 hit (by kernel_rfl) ok53 <|
 hit (by kernel_rfl) ok52 <|
 hit (by kernel_rfl) ok51 <|
 hit (by kernel_rfl) ok50 <|
 hit (by kernel_rfl) ok49 <|
 hit (by kernel_rfl) ok48 <|
 hit (by kernel_rfl) ok47 <|
 hit (by kernel_rfl) ok46 <|
 hit (by kernel_rfl) ok45 <|
 hit (by kernel_rfl) ok44 <|
 hit (by kernel_rfl) ok43 <|
 hit (by kernel_rfl) ok42 <|
 hit (by kernel_rfl) ok41 <|
 hit (by kernel_rfl) ok40 upto40
theorem upto80 : ∀ f, f < 80 → FnAt f :=
 hit (by kernel_rfl) ok79 <|
 hit (by kernel_rfl) ok78 <|
 hit (by kernel_rfl) ok77 <|
 hit (by kernel_rfl) ok76 <|
 hit (by kernel_rfl) ok75 <|
 hit (by kernel_rfl) ok74 <|
 hit (by kernel_rfl) ok73 <|
 hit (by kernel_rfl) ok72 <|
 hit (by kernel_rfl) ok71 <|
 hit (by kernel_rfl) ok70 <|
 hit (by kernel_rfl) ok69 <|
 hit (by kernel_rfl) ok68 <|
 hit (by kernel_rfl) ok67 <|
 hit (by kernel_rfl) ok66 <|
 hit (by kernel_rfl) ok65 <|
 hit (by kernel_rfl) ok64 <|
 hit (by kernel_rfl) ok63 <|
 hit (by kernel_rfl) ok62 <|
 hit (by kernel_rfl) ok61 <|
 hit (by kernel_rfl) ok60 upto60
theorem upto100 : ∀ f, f < 100 → FnAt f :=
 nix (by kernel_rfl) <|
 nix (by kernel_rfl) <|
 nix (by kernel_rfl) <|
 nix (by kernel_rfl) <|
 nix (by kernel_rfl) <|
 nix (by kernel_rfl) <|
 nix (by kernel_rfl) <|
 nix (by kernel_rfl) <|
 hit (by kernel_rfl) ok91 <|
 hit (by kernel_rfl) ok90 <|
 hit (by kernel_rfl) ok89 <|
 hit (by kernel_rfl) ok88 <|
 hit (by kernel_rfl) ok87 <|
 hit (by kernel_rfl) ok86 <|
 hit (by kernel_rfl) ok85 <|
 hit (by kernel_rfl) ok84 <|
 hit (by kernel_rfl) ok83 <|
 nix (by kernel_rfl) <|
 hit (by kernel_rfl) ok81 <|
 hit (by kernel_rfl) ok80 upto80
theorem upto120 : ∀ f, f < 120 → FnAt f :=
 nix (by kernel_rfl) <|
 nix (by kernel_rfl) <|
 nix (by kernel_rfl) <|
 nix (by kernel_rfl) <|
 nix (by kernel_rfl) <|
 nix (by kernel_rfl) <|
 nix (by kernel_rfl) <|
 nix (by kernel_rfl) <|
 nix (by kernel_rfl) <|
 nix (by kernel_rfl) <|
 nix (by kernel_rfl) <|
 nix (by kernel_rfl) <|
 nix (by kernel_rfl) <|
 nix (by kernel_rfl) <|
 nix (by kernel_rfl) <|
 hit (by kernel_rfl) ok104 <|
 nix (by kernel_rfl) <|
 nix (by kernel_rfl) <|
 nix (by kernel_rfl) <|
 nix (by kernel_rfl) upto100
theorem upto140 : ∀ f, f < 140 → FnAt f :=
 nix (by kernel_rfl) <|
 nix (by kernel_rfl) <|
 hit (by kernel_rfl) ok137 <|
 hit (by kernel_rfl) ok136 <|
 nix (by kernel_rfl) <|
 hit (by kernel_rfl) ok134 <|
 hit (by kernel_rfl) ok133 <|
 hit (by kernel_rfl) ok132 <|
 nix (by kernel_rfl) <|
 nix (by kernel_rfl) <|
 nix (by kernel_rfl) <|
 nix (by kernel_rfl) <|
 nix (by kernel_rfl) <|
 nix (by kernel_rfl) <|
 nix (by kernel_rfl) <|
 hit (by kernel_rfl) ok124 <|
 nix (by kernel_rfl) <|
 nix (by kernel_rfl) <|
 nix (by kernel_rfl) <|
 nix (by kernel_rfl) upto120
theorem upto160 : ∀ f, f < 160 → FnAt f :=
 nix (by kernel_rfl) <|
 nix (by kernel_rfl) <|
 nix (by kernel_rfl) <|
 nix (by kernel_rfl) <|
 nix (by kernel_rfl) <|
 hit (by kernel_rfl) ok154 <|
 nix (by kernel_rfl) <|
 nix (by kernel_rfl) <|
 nix (by kernel_rfl) <|
 nix (by kernel_rfl) <|
 nix (by kernel_rfl) <|
 nix (by kernel_rfl) <|
 nix (by kernel_rfl) <|
 nix (by kernel_rfl) <|
 nix (by kernel_rfl) <|
 nix (by kernel_rfl) <|
 hit (by kernel_rfl) ok143 <|
 hit (by kernel_rfl) ok142 <|
 nix (by kernel_rfl) <|
 nix (by kernel_rfl) upto140
theorem upto180 : ∀ f, f < 180 → FnAt f :=
 nix (by kernel_rfl) <|
 nix (by kernel_rfl) <|
 nix (by kernel_rfl) <|
 nix (by kernel_rfl) <|
 nix (by kernel_rfl) <|
 nix (by kernel_rfl) <|
 nix (by kernel_rfl) <|
 nix (by kernel_rfl) <|
 nix (by kernel_rfl) <|
 nix (by kernel_rfl) <|
 nix (by kernel_rfl) <|
 nix (by kernel_rfl) <|
 nix (by kernel_rfl) <|
 nix (by kernel_rfl) <|
 nix (by kernel_rfl) <|
 hit (by kernel_rfl) ok164 <|
 nix (by kernel_rfl) <|
 nix (by kernel_rfl) <|
 nix (by kernel_rfl) <|
 nix (by kernel_rfl) upto160
theorem upto196 : ∀ f, f < 196 → FnAt f :=
 nix (by kernel_rfl) <|
 nix (by kernel_rfl) <|
 nix (by kernel_rfl) <|
 nix (by kernel_rfl) <|
 nix (by kernel_rfl) <|
 nix (by kernel_rfl) <|
 nix (by kernel_rfl) <|
 nix (by kernel_rfl) <|
 nix (by kernel_rfl) <|
 nix (by kernel_rfl) <|
 nix (by kernel_rfl) <|
 nix (by kernel_rfl) <|
 nix (by kernel_rfl) <|
 nix (by kernel_rfl) <|
 nix (by kernel_rfl) <|
 nix (by kernel_rfl) upto180
theorem fns (f : FuncId) (xf : XFun) (h : code5z (num f) = some xf) : FunOK Tryz.prog num f xf := by
 by_cases hf : f < 196
 ·exact upto196 f hf xf h
 ·have hn : num f = 100000 + f := by
   unfold num
   rw [List.getElem?_eq_none (by rw [show gids.length = 196 from by kernel_rfl]; simp only [FuncId] at *; omega)]; rfl
  rw [hn] at h
  unfold code5z at h
  split at h <;> first | (exfalso; simp only [FuncId] at *; omega) | cases h
theorem nz (f : FuncId) : num f ≠ yieldNo := by
 by_cases hf : f < 196
 ·exact (by decide +kernel : ∀ f : Fin 196, num f.val ≠ yieldNo) ⟨f, hf⟩
 ·have hn : num f = 100000 + f := by
   unfold num
   rw [List.getElem?_eq_none (by rw [show gids.length = 196 from by kernel_rfl]; simp only [FuncId] at *; omega)]; rfl
  rw [hn, yieldNo]
  simp only [FuncId] at *; omega
def ren169 : Go.Shelf.Ren := ⟨fun | 169 => 135 | n => n, fun | 70 => 221 | 9 => 9 | 0 => 0 | 72 => 224 | 37 => 222 | 127 => 232 | 3 => 3 | 5 => 5 | n => n, fun | n => n⟩
theorem lays169 : Go.Proofs.Lays.n169 Tryz.prog ren169 := {
 mixed := by kernel_rfl
 f169 := Tryz.func135.trans (congrArg some (by kernel_rfl))
 t0 := Tryz.underlying0
 a0 := Tryz.isAgg0
 z0 := Tryz.sizeOf0
 v0 := Tryz.zeroValue0
 t3 := Tryz.underlying3
 a3 := Tryz.isAgg3
 z3 := Tryz.sizeOf3
 v3 := Tryz.zeroValue3
 t9 := Tryz.underlying9
 a9 := Tryz.isAgg9
 z9 := Tryz.sizeOf9
 v9 := Tryz.zeroValue9
 t37 := Tryz.underlying222
 a37 := Tryz.isAgg222
 z37 := Tryz.sizeOf222
 v37 := Tryz.zeroValue222
 t70 := Tryz.underlying221
 a70 := Tryz.isAgg221
 z70 := Tryz.sizeOf221
 v70 := Tryz.zeroValue221
 t72 := Tryz.underlying224
 a72 := Tryz.isAgg224
 z72 := Tryz.sizeOf224
 v72 := Tryz.zeroValue224
 t127 := Tryz.underlying232
 a127 := Tryz.isAgg232
 z127 := Tryz.sizeOf232
 v127 := Tryz.zeroValue232 }
def ren246 : Go.Shelf.Ren := ⟨fun | 246 => 141 | 283 => 150 | 284 => 151 | 285 => 152 | 286 => 153 | 129 => 160 | 317 => 159 | 318 => 161 | 319 => 162 | 320 => 163 | 337 => 165 | 338 => 166 | n => n, fun | 2 => 2 | 3 => 3 | 9 => 9 | 4 => 4 | 171 => 240 | 0 => 0 | 53 => 231 | 37 => 222 | 5 => 5 | 173 => 243 | 212 => 252 | 51 => 253 | 20 => 20 | 213 => 254 | 46 => 236 | 232 => 261 | 233 => 262 | n => n, fun | 17 => 2 | 18 => 3 | 19 => 4 | n => n⟩
theorem lays246 : Go.Proofs.LaysM.n246 Tryz.prog ren246 := {
 mixed := by kernel_rfl
 f129 := Tryz.func160.trans (congrArg some (by kernel_rfl))
 f246 := Tryz.func141.trans (congrArg some (by kernel_rfl))
 f283 := Tryz.func150.trans (congrArg some (by kernel_rfl))
 f284 := Tryz.func151.trans (congrArg some (by kernel_rfl))
 f285 := Tryz.func152.trans (congrArg some (by kernel_rfl))
 f286 := Tryz.func153.trans (congrArg some (by kernel_rfl))
 f317 := Tryz.func159.trans (congrArg some (by kernel_rfl))
 f318 := Tryz.func161.trans (congrArg some (by kernel_rfl))
 f319 := Tryz.func162.trans (congrArg some (by kernel_rfl))
 f320 := Tryz.func163.trans (congrArg some (by kernel_rfl))
 f337 := Tryz.func165.trans (congrArg some (by kernel_rfl))
 f338 := Tryz.func166.trans (congrArg some (by kernel_rfl))
 t0 := Tryz.underlying0
 a0 := Tryz.isAgg0
 z0 := Tryz.sizeOf0
 v0 := Tryz.zeroValue0
 t2 := Tryz.underlying2
 a2 := Tryz.isAgg2
 z2 := Tryz.sizeOf2
 v2 := Tryz.zeroValue2
 t3 := Tryz.underlying3
 a3 := Tryz.isAgg3
 z3 := Tryz.sizeOf3
 v3 := Tryz.zeroValue3
 t4 := Tryz.underlying4
 a4 := Tryz.isAgg4
 z4 := Tryz.sizeOf4
 v4 := Tryz.zeroValue4
 t5 := Tryz.underlying5
 a5 := Tryz.isAgg5
 z5 := Tryz.sizeOf5
 v5 := Tryz.zeroValue5
 t9 := Tryz.underlying9
 a9 := Tryz.isAgg9
 z9 := Tryz.sizeOf9
 v9 := Tryz.zeroValue9
 t20 := Tryz.underlying20
 a20 := Tryz.isAgg20
 z20 := Tryz.sizeOf20
 v20 := Tryz.zeroValue20
 t37 := Tryz.underlying222
 a37 := Tryz.isAgg222
 z37 := Tryz.sizeOf222
 v37 := Tryz.zeroValue222
 t46 := Tryz.underlying236
 a46 := Tryz.isAgg236
 z46 := Tryz.sizeOf236
 v46 := Tryz.zeroValue236
 t51 := Tryz.underlying253
 a51 := Tryz.isAgg253
 z51 := Tryz.sizeOf253
 v51 := Tryz.zeroValue253
 t53 := Tryz.underlying231
 a53 := Tryz.isAgg231
 z53 := Tryz.sizeOf231
 v53 := Tryz.zeroValue231
 t171 := Tryz.underlying240
 a171 := Tryz.isAgg240
 z171 := Tryz.sizeOf240
 v171 := Tryz.zeroValue240
 t173 := Tryz.underlying243
 a173 := Tryz.isAgg243
 z173 := Tryz.sizeOf243
 v173 := Tryz.zeroValue243
 t212 := Tryz.underlying252
 a212 := Tryz.isAgg252
 z212 := Tryz.sizeOf252
 v212 := Tryz.zeroValue252
 t213 := Tryz.underlying254
 a213 := Tryz.isAgg254
 z213 := Tryz.sizeOf254
 t232 := Tryz.underlying261
 a232 := Tryz.isAgg261
 z232 := Tryz.sizeOf261
 v232 := Tryz.zeroValue261
 t233 := Tryz.underlying262
 a233 := Tryz.isAgg262
 z233 := Tryz.sizeOf262
 v233 := Tryz.zeroValue262
 g17 := by kernel_rfl
 g18 := by kernel_rfl
 g19 := by kernel_rfl
 i0 := by kernel_rfl
 i2 := by kernel_rfl
 i3 := by kernel_rfl
 i4 := by kernel_rfl
 i5 := by kernel_rfl
 i9 := by kernel_rfl
 i20 := by kernel_rfl
 i37 := by kernel_rfl
 i46 := by kernel_rfl
 i51 := by kernel_rfl
 i53 := by kernel_rfl
 i171 := by kernel_rfl
 i173 := by kernel_rfl
 i212 := by kernel_rfl
 i232 := by kernel_rfl
 i233 := by kernel_rfl
 m17 := by kernel_rfl
 m18 := by kernel_rfl
 m19 := by kernel_rfl }
def ren174 : Go.Shelf.Ren := ⟨fun | 174 => 82 | 247 => 139 | 245 => 140 | 287 => 145 | 279 => 146 | 280 => 147 | 281 => 148 | 282 => 149 | 321 => 156 | 322 => 157 | 316 => 138 | 171 => 154 | 205 => 158 | 243 => 164 | 246 => 141 | 283 => 150 | 284 => 151 | 285 => 152 | 286 => 153 | 129 => 160 | 317 => 159 | 318 => 161 | 319 => 162 | 320 => 163 | 337 => 165 | 338 => 166 | n => n, fun | 9 => 9 | 3 => 3 | 2 => 2 | 75 => 70 | 85 => 71 | 4 => 4 | 167 => 233 | 5 => 5 | 53 => 231 | 175 => 234 | 46 => 236 | 168 => 237 | 37 => 222 | 0 => 0 | 210 => 249 | 21 => 21 | 127 => 232 | 145 => 259 | 143 => 257 | 171 => 240 | 173 => 243 | 212 => 252 | 51 => 253 | 20 => 20 | 213 => 254 | 232 => 261 | 233 => 262 | 80 => 227 | n => n, fun | 15 => 0 | 16 => 1 | 17 => 2 | 18 => 3 | 19 => 4 | n => n⟩
theorem lays174 : Go.Proofs.LaysC.n174 Tryz.prog ren174 := {
 mixed := by kernel_rfl
 f129 := Tryz.func160.trans (congrArg some (by kernel_rfl))
 f171 := Tryz.func154.trans (congrArg some (by kernel_rfl))
 f174 := Tryz.func82.trans (congrArg some (by kernel_rfl))
 f205 := Tryz.func158.trans (congrArg some (by kernel_rfl))
 f243 := Tryz.func164.trans (congrArg some (by kernel_rfl))
 f245 := Tryz.func140.trans (congrArg some (by kernel_rfl))
 f246 := Tryz.func141.trans (congrArg some (by kernel_rfl))
 f247 := Tryz.func139.trans (congrArg some (by kernel_rfl))
 f279 := Tryz.func146.trans (congrArg some (by kernel_rfl))
 f280 := Tryz.func147.trans (congrArg some (by kernel_rfl))
 f281 := Tryz.func148.trans (congrArg some (by kernel_rfl))
 f282 := Tryz.func149.trans (congrArg some (by kernel_rfl))
 f283 := Tryz.func150.trans (congrArg some (by kernel_rfl))
 f284 := Tryz.func151.trans (congrArg some (by kernel_rfl))
 f285 := Tryz.func152.trans (congrArg some (by kernel_rfl))
 f286 := Tryz.func153.trans (congrArg some (by kernel_rfl))
 f287 := Tryz.func145.trans (congrArg some (by kernel_rfl))
 f316 := Tryz.func138.trans (congrArg some (by kernel_rfl))
 f317 := Tryz.func159.trans (congrArg some (by kernel_rfl))
 f318 := Tryz.func161.trans (congrArg some (by kernel_rfl))
 f319 := Tryz.func162.trans (congrArg some (by kernel_rfl))
 f320 := Tryz.func163.trans (congrArg some (by kernel_rfl))
 f321 := Tryz.func156.trans (congrArg some (by kernel_rfl))
 f322 := Tryz.func157.trans (congrArg some (by kernel_rfl))
 f337 := Tryz.func165.trans (congrArg some (by kernel_rfl))
 f338 := Tryz.func166.trans (congrArg some (by kernel_rfl))
 t0 := Tryz.underlying0
 a0 := Tryz.isAgg0
 z0 := Tryz.sizeOf0
 v0 := Tryz.zeroValue0
 t2 := Tryz.underlying2
 a2 := Tryz.isAgg2
 z2 := Tryz.sizeOf2
 v2 := Tryz.zeroValue2
 t3 := Tryz.underlying3
 a3 := Tryz.isAgg3
 z3 := Tryz.sizeOf3
 v3 := Tryz.zeroValue3
 t4 := Tryz.underlying4
 a4 := Tryz.isAgg4
 z4 := Tryz.sizeOf4
 v4 := Tryz.zeroValue4
 t5 := Tryz.underlying5
 a5 := Tryz.isAgg5
 z5 := Tryz.sizeOf5
 v5 := Tryz.zeroValue5
 t9 := Tryz.underlying9
 a9 := Tryz.isAgg9
 z9 := Tryz.sizeOf9
 v9 := Tryz.zeroValue9
 t20 := Tryz.underlying20
 a20 := Tryz.isAgg20
 z20 := Tryz.sizeOf20
 v20 := Tryz.zeroValue20
 t21 := Tryz.underlying21
 a21 := Tryz.isAgg21
 z21 := Tryz.sizeOf21
 v21 := Tryz.zeroValue21
 t37 := Tryz.underlying222
 a37 := Tryz.isAgg222
 z37 := Tryz.sizeOf222
 v37 := Tryz.zeroValue222
 t46 := Tryz.underlying236
 a46 := Tryz.isAgg236
 z46 := Tryz.sizeOf236
 v46 := Tryz.zeroValue236
 t51 := Tryz.underlying253
 a51 := Tryz.isAgg253
 z51 := Tryz.sizeOf253
 v51 := Tryz.zeroValue253
 t53 := Tryz.underlying231
 a53 := Tryz.isAgg231
 z53 := Tryz.sizeOf231
 v53 := Tryz.zeroValue231
 t75 := Tryz.underlying70
 a75 := Tryz.isAgg70
 z75 := Tryz.sizeOf70
 v75 := Tryz.zeroValue70
 t85 := Tryz.underlying71
 a85 := Tryz.isAgg71
 z85 := Tryz.sizeOf71
 v85 := Tryz.zeroValue71
 t127 := Tryz.underlying232
 a127 := Tryz.isAgg232
 z127 := Tryz.sizeOf232
 v127 := Tryz.zeroValue232
 t143 := Tryz.underlying257
 a143 := Tryz.isAgg257
 z143 := Tryz.sizeOf257
 v143 := Tryz.zeroValue257
 t145 := Tryz.underlying259
 a145 := Tryz.isAgg259
 z145 := Tryz.sizeOf259
 v145 := Tryz.zeroValue259
 t167 := Tryz.underlying233
 a167 := Tryz.isAgg233
 z167 := Tryz.sizeOf233
 v167 := Tryz.zeroValue233
 t168 := Tryz.underlying237
 a168 := Tryz.isAgg237
 z168 := Tryz.sizeOf237
 v168 := Tryz.zeroValue237
 t171 := Tryz.underlying240
 a171 := Tryz.isAgg240
 z171 := Tryz.sizeOf240
 v171 := Tryz.zeroValue240
 t173 := Tryz.underlying243
 a173 := Tryz.isAgg243
 z173 := Tryz.sizeOf243
 v173 := Tryz.zeroValue243
 t175 := Tryz.underlying234
 a175 := Tryz.isAgg234
 z175 := Tryz.sizeOf234
 v175 := Tryz.zeroValue234
 t210 := Tryz.underlying249
 a210 := Tryz.isAgg249
 z210 := Tryz.sizeOf249
 v210 := Tryz.zeroValue249
 t212 := Tryz.underlying252
 a212 := Tryz.isAgg252
 z212 := Tryz.sizeOf252
 v212 := Tryz.zeroValue252
 t213 := Tryz.underlying254
 a213 := Tryz.isAgg254
 z213 := Tryz.sizeOf254
 t232 := Tryz.underlying261
 a232 := Tryz.isAgg261
 z232 := Tryz.sizeOf261
 v232 := Tryz.zeroValue261
 t233 := Tryz.underlying262
 a233 := Tryz.isAgg262
 z233 := Tryz.sizeOf262
 v233 := Tryz.zeroValue262
 g15 := by kernel_rfl
 g16 := by kernel_rfl
 g17 := by kernel_rfl
 g18 := by kernel_rfl
 g19 := by kernel_rfl
 t80 := Tryz.underlying227
 a80 := Tryz.isAgg227
 z80 := Tryz.sizeOf227
 v80 := Tryz.zeroValue227
 i0 := by kernel_rfl
 i2 := by kernel_rfl
 i3 := by kernel_rfl
 i4 := by kernel_rfl
 i5 := by kernel_rfl
 i9 := by kernel_rfl
 i20 := by kernel_rfl
 i21 := by kernel_rfl
 i37 := by kernel_rfl
 i46 := by kernel_rfl
 i51 := by kernel_rfl
 i53 := by kernel_rfl
 i75 := by kernel_rfl
 i80 := by kernel_rfl
 i85 := by kernel_rfl
 i127 := by kernel_rfl
 i143 := by kernel_rfl
 i145 := by kernel_rfl
 i167 := by kernel_rfl
 i168 := by kernel_rfl
 i171 := by kernel_rfl
 i173 := by kernel_rfl
 i175 := by kernel_rfl
 i210 := by kernel_rfl
 i212 := by kernel_rfl
 i232 := by kernel_rfl
 i233 := by kernel_rfl
 m15 := by kernel_rfl
 m16 := by kernel_rfl
 m17 := by kernel_rfl
 m18 := by kernel_rfl
 m19 := by kernel_rfl
 c0 := by kernel_rfl
 c2 := by kernel_rfl
 c3 := by kernel_rfl
 c4 := by kernel_rfl
 c5 := by kernel_rfl
 c9 := by kernel_rfl
 c20 := by kernel_rfl
 c21 := by kernel_rfl
 c37 := by kernel_rfl
 c46 := by kernel_rfl
 c51 := by kernel_rfl
 c53 := by kernel_rfl
 c75 := by kernel_rfl
 c80 := by kernel_rfl
 c85 := by kernel_rfl
 c127 := by kernel_rfl
 c143 := by kernel_rfl
 c145 := by kernel_rfl
 c167 := by kernel_rfl
 c168 := by kernel_rfl
 c171 := by kernel_rfl
 c173 := by kernel_rfl
 c175 := by kernel_rfl
 c210 := by kernel_rfl
 c212 := by kernel_rfl
 c213 := by kernel_rfl
 c232 := by kernel_rfl
 c233 := by kernel_rfl }
def ren316 : Go.Shelf.Ren := ⟨fun | 316 => 138 | n => n, fun | 9 => 9 | 3 => 3 | 4 => 4 | 37 => 222 | 0 => 0 | 127 => 232 | 5 => 5 | n => n, fun | n => n⟩
theorem lays316 : Go.Proofs.LaysM.n316 Tryz.prog ren316 := {
 mixed := by kernel_rfl
 f316 := Tryz.func138.trans (congrArg some (by kernel_rfl))
 t0 := Tryz.underlying0
 a0 := Tryz.isAgg0
 z0 := Tryz.sizeOf0
 v0 := Tryz.zeroValue0
 t3 := Tryz.underlying3
 a3 := Tryz.isAgg3
 z3 := Tryz.sizeOf3
 v3 := Tryz.zeroValue3
 t4 := Tryz.underlying4
 a4 := Tryz.isAgg4
 z4 := Tryz.sizeOf4
 v4 := Tryz.zeroValue4
 t9 := Tryz.underlying9
 a9 := Tryz.isAgg9
 z9 := Tryz.sizeOf9
 v9 := Tryz.zeroValue9
 t37 := Tryz.underlying222
 a37 := Tryz.isAgg222
 z37 := Tryz.sizeOf222
 v37 := Tryz.zeroValue222
 t127 := Tryz.underlying232
 a127 := Tryz.isAgg232
 z127 := Tryz.sizeOf232
 v127 := Tryz.zeroValue232
 t5 := Tryz.underlying5
 a5 := Tryz.isAgg5
 z5 := Tryz.sizeOf5
 v5 := Tryz.zeroValue5
 i0 := by kernel_rfl
 i3 := by kernel_rfl
 i4 := by kernel_rfl
 i5 := by kernel_rfl
 i9 := by kernel_rfl
 i37 := by kernel_rfl
 i127 := by kernel_rfl }
theorem ck_num (f : FuncId) (h : num f = 674) : f = 144 := by
 by_cases hf : f < 196
 ·exact (by decide +kernel : ∀ f : Fin 196, num f.val = 674 → f.val = 144) ⟨f, hf⟩ h
 ·have hn : num f = 100000 + f := by
   unfold num
   rw [List.getElem?_eq_none (by rw [show gids.length = 196 from by kernel_rfl]; simp only [FuncId] at *; omega)]; rfl
  rw [hn] at h
  exfalso; simp only [FuncId] at *; omega
theorem str_num (f : FuncId) (h : num f = 670) : f = ren169.f 169 := by
 by_cases hf : f < 196
 ·exact (by decide +kernel : ∀ f : Fin 196, num f.val = 670 → f.val = ren169.f 169) ⟨f, hf⟩ h
 ·have hn : num f = 100000 + f := by
   unfold num
   rw [List.getElem?_eq_none (by rw [show gids.length = 196 from by kernel_rfl]; simp only [FuncId] at *; omega)]; rfl
  rw [hn] at h
  exfalso; simp only [FuncId] at *; omega
theorem fmt_num (f : FuncId) (h : num f = 708) : f = ren246.f 246 := by
 by_cases hf : f < 196
 ·exact (by decide +kernel : ∀ f : Fin 196, num f.val = 708 → f.val = ren246.f 246) ⟨f, hf⟩ h
 ·have hn : num f = 100000 + f := by
   unfold num
   rw [List.getElem?_eq_none (by rw [show gids.length = 196 from by kernel_rfl]; simp only [FuncId] at *; omega)]; rfl
  rw [hn] at h
  exfalso; simp only [FuncId] at *; omega
theorem pi_num (f : FuncId) (h : num f = 787) : f = ren174.f 174 := by
 by_cases hf : f < 196
 ·exact (by decide +kernel : ∀ f : Fin 196, num f.val = 787 → f.val = ren174.f 174) ⟨f, hf⟩ h
 ·have hn : num f = 100000 + f := by
   unfold num
   rw [List.getElem?_eq_none (by rw [show gids.length = 196 from by kernel_rfl]; simp only [FuncId] at *; omega)]; rfl
  rw [hn] at h
  exfalso; simp only [FuncId] at *; omega
theorem cl_num (f : FuncId) (h : num f = 721) : f = ren316.f 316 := by
 by_cases hf : f < 196
 ·exact (by decide +kernel : ∀ f : Fin 196, num f.val = 721 → f.val = ren316.f 316) ⟨f, hf⟩ h
 ·have hn : num f = 100000 + f := by
   unfold num
   rw [List.getElem?_eq_none (by rw [show gids.length = 196 from by kernel_rfl]; simp only [FuncId] at *; omega)]; rfl
  rw [hn] at h
  exfalso; simp only [FuncId] at *; omega
theorem zbs : Callable Tryz.prog 144 := ⟨Tryz.f144, Tryz.func144, by decide +kernel, by kernel_rfl⟩
theorem zq3 : Callable Tryz.prog (ren169.f 169) := ⟨Tryz.f135, Tryz.func135, by decide +kernel, by kernel_rfl⟩
theorem zfc : Callable Tryz.prog (ren246.f 246) := ⟨Tryz.f141, Tryz.func141, by decide +kernel, by kernel_rfl⟩
theorem zlx : Callable Tryz.prog (ren174.f 174) := ⟨Tryz.f82, Tryz.func82, by decide +kernel, by kernel_rfl⟩
theorem zbt : Callable Tryz.prog (ren316.f 316) := ⟨Tryz.f138, Tryz.func138, by decide +kernel, by kernel_rfl⟩
theorem strExtra : Builder.Extra Tryz.prog ren169 := {
 sizeBuilder := by kernel_rfl
 liesBuilder := by kernel_rfl
 t5 := Tryz.underlying5
 a5 := Tryz.isAgg5
 z5 := Tryz.sizeOf5
 v5 := Tryz.zeroValue5
 infoByte := by kernel_rfl
 cellsByte := by kernel_rfl
 sizeByte := by kernel_rfl
 neB5 := by decide }
abbrev powTab : Tab := ("internal/strconv.uint64pow10", .u64, Lib.pow10Tab)
abbrev errNames : List String := ["strconv.ErrRange", "strconv.ErrSyntax"]
theorem ext_ok : ExtOK (Names.errs num Tryz.prog [powTab] errNames) Tryz.prog (ext5 dig) :=
 zei (zej checkFacts (by kernel_rfl) ck_num zbs) (zen lays169 strExtra str_num zq3) (zel lays246 (List.mem_cons_self ..) fmt_num zfc)
  (zem lays174 (List.mem_cons_of_mem _ (List.mem_cons_self ..)) (List.mem_cons_self ..) pi_num zlx) (zek lays316 cl_num zbt)
theorem runs : Runs Tryz.prog (Names.errs num Tryz.prog [powTab] errNames) code5z (ext5 dig) :=
 ⟨by kernel_rfl, fns, ext_ok, nz, zby, fun _ _ _ _ _ _ => Iff.rfl, fun _ _ _ h => h, fun _ h1 h2 => ⟨h1, h2⟩⟩
end Go.Proofs.YtkmdbfhagicidaaGreatDoor


namespace Go.Proofs.YtkmdbfhagicidaaGreatDoor
open Go.EX Go.ChangeShapes Go.WideShapes Go.ChangeAt Go.RowKit
set_option linter.unusedVariables false
theorem own : ownKnob Tryz.prog.godebug = none := by kernel_rfl
theorem laidOut : laidOutB Tryz.prog = true := by kernel_rfl
abbrev laidTabs : List (String × DataW Unit) := [("math/bits.deBruijn32tab", Rows.laid_math_bits_deBruijn32tab), ("math/bits.deBruijn64tab", Rows.laid_math_bits_deBruijn64tab), ("internal/strconv.uint64pow10", Rows.laid_internal_strconv_uint64pow10), ("strconv.ErrRange", Rows.laid_strconv_ErrRange), ("strconv.ErrSyntax", Rows.laid_strconv_ErrSyntax)]
theorem zq8 : (Rows.laid_internal_strconv_uint64pow10 : DataW Unit) = Lib.tabData .u64 Lib.pow10Tab := by kernel_rfl
theorem gP : Tryz.prog.globalNamed "internal/strconv.uint64pow10" = some 2 := by kernel_rfl
theorem gR : Tryz.prog.globalNamed "strconv.ErrRange" = some 1 := by kernel_rfl
theorem gS : Tryz.prog.globalNamed "strconv.ErrSyntax" = some 0 := by kernel_rfl
theorem star : "*" ++ "errors.errorString" = "*errors.errorString" := by decide
theorem row257 (u : TypeId) (h : Tryz.prog.typeName? 3 u = some "*errors.errorString") : u = 257 :=
 typeName_ptr_named (nm := "errors.errorString") (by rw [star]; kernel_rfl) (by kernel_rfl) (by decide) u (by rw [star]; exact h)
theorem var_lt {W : World} {n : String} {g : Nat} {cs : Array Value} (hg : Tryz.prog.globalNamed n = some g) (h : W.var? Tryz.prog n = some cs) : g < W.heap.size := by
 unfold World.var? at h
 rw [hg] at h
 simp only [Option.bind_some] at h
 by_cases hlt : g < W.heap.size
 ·exact hlt
 ·rw [Array.getElem?_eq_none (by omega)] at h
  cases h
theorem zq9 {W : World} (h : laidMetH Tryz.prog laidTabs W) :
  TabsIn Tryz.prog [powTab] (fun b => b < W.heap.size) W ∧ ErrsIn Tryz.prog errNames (fun b => b < W.heap.size) W := by
 have h2 : laidMet Tryz.prog laidTabs W := h
 rw [laidTabs, zq8] at h2
 have hl := h2.tail.tail
 have hR : laidMet Tryz.prog [("strconv.ErrRange", .iface "*errors.errorString" (.ptr (.agg [.lit (.string [118, 97, 108, 117, 101, 32, 111, 117, 116, 32, 111, 102, 32, 114, 97, 110, 103, 101])]))), ("strconv.ErrSyntax", Rows.laid_strconv_ErrSyntax)] W := hl.tail
 have hS : laidMet Tryz.prog [("strconv.ErrSyntax", .iface "*errors.errorString" (.ptr (.agg [.lit (.string [105, 110, 118, 97, 108, 105, 100, 32, 115, 121, 110, 116, 97, 120])])))] W := hl.tail.tail
 refine ⟨?_, ?_⟩
 ·have ht := Lib.tabIs_of_head (t := 252) (e := 231) (n := 20) gP (by kernel_rfl) Tryz.underlying252 Tryz.underlying231 (by kernel_rfl) (by kernel_rfl) hl
  intro t ht'
  simp only [List.mem_singleton] at ht'
  subst ht'
  exact ⟨⟨2, gP, var_lt gP ht⟩, ht⟩
 ·obtain ⟨a0, sa, hva, _, _, _⟩ := laid_sentinel hR gR (by kernel_rfl) Tryz.underlying70 row257 Tryz.underlying257 Tryz.underlying259 rfl rfl Tryz.underlying9 (by kernel_rfl) (by kernel_rfl)
  obtain ⟨b0, sb, hvb, _, _, _⟩ := laid_sentinel hS gS (by kernel_rfl) Tryz.underlying70 row257 Tryz.underlying257 Tryz.underlying259 rfl rfl Tryz.underlying9 (by kernel_rfl) (by kernel_rfl)
  intro t ht'
  simp only [List.mem_cons, List.not_mem_nil, or_false] at ht'
  rcases ht' with rfl | rfl
  ·exact ⟨⟨1, gR, var_lt gR hva⟩, _, _, hva⟩
  ·exact ⟨⟨0, gS, var_lt gS hvb⟩, _, _, hvb⟩
theorem zc1 (os : Os) (args : Array Value) : laidMetH Tryz.prog laidTabs ((World.doorLaid Tryz.prog 400 os).forCall (fun _ _ => 0) ⟨#[], args, []⟩).memory :=
 laidMetH_of_parts3 (fuel := 8) (laidMet_of_run' 8 (by kernel_rfl) (by kernel_rfl)) (by kernel_rfl) (by kernel_rfl)
theorem readsText : ReadsAs Tryz.prog 9 tStr := readsStr Tryz.underlying9
end Go.Proofs.YtkmdbfhagicidaaGreatDoor


set_option linter.unusedVariables false
set_option linter.unusedSimpArgs false
namespace Go.EX
open Go.Lib
theorem zbb (d : Nat) (h : d < 10) : (UInt8.ofNat (48 + d)).toNat = 48 + d := by
 rw [UInt8.toNat_ofNat']
 omega
theorem dec_ne (u : Nat) : decDigits u ≠ [] := by
 by_cases h : u < 10
 ·rw [decDigits, dif_pos h]; simp
 ·rw [decDigits, dif_neg h]; simp
theorem zck : ∀ (k u : Nat), u < 10 ^ (k + 1) → (decDigits u).length ≤ k + 1 := by
 intro k
 induction k with
 | zero => intro u hu; rw [decDigits, dif_pos (by simpa using hu)]; simp
 | succ k ih =>
  intro u hu
  by_cases h : u < 10
  ·rw [decDigits, dif_pos h]; simp
  ·rw [decDigits, dif_neg h, List.length_append, List.length_singleton]
   have := ih (u / 10) (by rw [Nat.pow_succ] at hu; omega)
   omega
def escL : List UInt8 → List UInt8
 | [] => []
 | c :: r => (if c = 34 ∨ c = 92 then [92, c] else if c = 10 then [92, 110] else [c]) ++ escL r
theorem zrk (acc : List UInt8) {x : UInt8} (hx : isPlain x = true) (l : List UInt8) : textL acc (x :: l) = textL (acc ++ [x]) l := by
 have h1 : (x :: l).dropWhile isPlain = l.dropWhile isPlain := by simp [List.dropWhile, hx]
 have h2 : (x :: l).takeWhile isPlain = x :: l.takeWhile isPlain := by simp [List.takeWhile, hx]
 cases hs : stepT (l.dropWhile isPlain) with
 | none => rw [zre acc (by rw [h1]; exact hs), zre _ hs]
 | some o =>
  cases o with
  | none => rw [zrg acc (by rw [h1]; exact hs), zrg _ hs, h1, h2]; simp
  | some c => rw [zrj acc (by rw [h1]; exact hs), zrj _ hs, h1, h2]; simp
theorem plain34 : isPlain 34 = false := by decide
theorem plain92 : isPlain 92 = false := by decide
theorem zrh : ∀ (s : List UInt8) (acc r : List UInt8), textL acc (escL s ++ 34 :: r) = some (acc ++ s, r)
 | [], acc, r => by
  have hd : (escL [] ++ 34 :: r).dropWhile isPlain = 34 :: r := by simp [escL, List.dropWhile, plain34]
  have ht : (escL [] ++ 34 :: r).takeWhile isPlain = [] := by simp [escL, List.takeWhile, plain34]
  rw [zrg acc (by rw [hd]; rfl), hd, ht]
  simp
 | c :: s, acc, r => by
  have hstep : ∀ d : UInt8, ∀ e : UInt8, stepT (92 :: d :: (escL s ++ 34 :: r)) = some (some e) → textL acc (92 :: d :: (escL s ++ 34 :: r)) = some (acc ++ e :: s, r) := by
   intro d e hs
   have hd : (92 :: d :: (escL s ++ 34 :: r)).dropWhile isPlain = 92 :: d :: (escL s ++ 34 :: r) := by simp [List.dropWhile, plain92]
   have ht : (92 :: d :: (escL s ++ 34 :: r)).takeWhile isPlain = [] := by simp [List.takeWhile, plain92]
   rw [zrj acc (c := e) (by rw [hd]; exact hs), hd, ht]
   show textL (acc ++ [] ++ [e]) (escL s ++ 34 :: r) = _
   rw [zrh s]
   simp
  rw [escL]
  by_cases h1 : c = 34
  ·subst h1
   exact hstep 34 34 rfl
  by_cases h2 : c = 92
  ·subst h2
   exact hstep 92 92 rfl
  rw [if_neg (by simp [h1, h2])]
  by_cases h3 : c = 10
  ·subst h3
   exact hstep 110 10 rfl
  rw [if_neg h3]
  have hp : isPlain c = true := by
   unfold isPlain
   have q : ∀ n : UInt8, ¬ c = n → ¬ c.toNat = n.toNat := fun n h e => h (UInt8.toNat_inj.1 e)
   have q1 := q 34 h1
   have q2 := q 92 h2
   have q3 := q 10 h3
   simp only [Bool.and_eq_true, Bool.not_eq_true', decide_eq_false_iff_not]
   exact ⟨⟨q1, q2⟩, q3⟩
  show textL acc (c :: (escL s ++ 34 :: r)) = _
  rw [zrk acc hp, zrh s]
  simp
end Go.EX


set_option linter.unusedVariables false
set_option linter.unusedSimpArgs false
namespace Go.EX
open Go.Lib
section
variable {code : Nat → Option XFun} {ext : Calls'}
def rowB (l : List UInt8) : List IV := l.map fun c => .val (.int .u8 c.toNat)
theorem zoc (l : List UInt8) : (rowB l).length = l.length := by simp [rowB]
theorem zod (l : List UInt8) (c : UInt8) : rowB l ++ [.val (.int .u8 c.toNat)] = rowB (l ++ [c]) := by simp [rowB]
abbrev uint64 (n : Int) : AV := .imm (.val (.int .u64 n))
def bV (l : List UInt8) : AV := if l.length = 0 then nilS else .osl 0 0 1 l.length none
def bM (l : List UInt8) : Mem := if l.length = 0 then [] else [.flat (rowB l) false]
theorem zse (l : List UInt8) : u8s (rowB l) = some (l.map fun c => (c.toNat : Int)) := by
 induction l with
 | nil => rfl
 | cons c l ih =>
  have : rowB (c :: l) = .val (.int .u8 c.toNat) :: rowB l := rfl
  rw [this]
  simp [u8s, ih]
theorem zq2 (l : List UInt8) (n : Nat) (h : l.length = n) : strOfV [.flat (rowB l) false] (.osl 0 0 1 n none) = some ⟨l.toArray⟩ := by
 have hc : cut (rowB l) 0 n = some (rowB l) := zca _ (by rw [zoc, h])
 simp only [strOfV, elems, List.getElem?_cons_zero, Nat.mul_one, hc, Option.map_some, zse, zmr]
 congr 2
 simp
 have : ((fun n : Int => UInt8.ofNat n.toNat) ∘ fun c : UInt8 => (c.toNat : Int)) = id := by
  funext c
  simp
 rw [this]; simp
end
end Go.EX


set_option linter.unusedVariables false
set_option linter.unusedSimpArgs false
namespace Go.EX
open Go.Lib
theorem zqg {x : UInt8} (hx : isBlank x = false) (r : List UInt8) (h : hasPre [47, 47] (x :: r) = false) (n : Nat) : skipL (x :: r) n = (x :: r, n) := by
 have hd : (x :: r).dropWhile isBlank = x :: r := by simp [List.dropWhile, hx]
 have ht : (x :: r).takeWhile isBlank = [] := by simp [List.takeWhile, hx]
 rw [zqf n (by rw [hd]; exact h), hd, ht]
 rfl
theorem zcx {x : UInt8} (hx : isDigit x = true) : isBlank x = false ∧ x ≠ 47 ∧ x ≠ 61 ∧ isWord x = true := by
 unfold isDigit at hx
 simp only [Bool.and_eq_true, decide_eq_true_eq] at hx
 refine ⟨?_, ?_, ?_, ?_⟩
 ·unfold isBlank
  simp only [Bool.or_eq_false_iff, decide_eq_false_iff_not]
  omega
 ·intro e; subst e; simp at hx
 ·intro e; subst e; simp at hx
 ·unfold isWord isDigit; simp [hx.1, hx.2]
end Go.EX


set_option linter.unusedVariables false
set_option linter.unusedSimpArgs false
namespace Go.EX
open Go.Lib
section
variable {code : Nat → Option XFun} {ext : Calls'}
theorem zm1 (h : code 513 = some x513) (c : UInt8) : callW code ext 513 [.imm (.val (.int .u8 c.toNat))] [] = some (avb (isDigit c), []) := by
 rw [zbi code ext h]
 unfold isDigit
 generalize c.toNat = n
 by_cases h1 : 48 ≤ n
 ·have h1' : (48 : Int) ≤ n := by omega
  by_cases h2 : n ≤ 57
  ·have h2' : (n : Int) ≤ 57 := by omega
   simp -implicitDefEqProofs [x513, h1, h2, h1', h2']
  ·have h2' : ¬ (n : Int) ≤ 57 := by omega
   simp -implicitDefEqProofs [x513, h1, h2, h1', h2']
 ·have h1' : ¬ (48 : Int) ≤ n := by omega
  simp -implicitDefEqProofs [x513, h1, h1']
theorem zn5 (h : code 514 = some x514) (c : UInt8) : callW code ext 514 [.imm (.val (.int .u8 c.toNat))] [] = some (avb (isLetter c), []) := by
 rw [zbi code ext h]
 unfold isLetter
 generalize c.toNat = n
 by_cases h1 : 97 ≤ n
 ·have h1' : (97 : Int) ≤ n := by omega
  by_cases h2 : n ≤ 122
  ·have h2' : (n : Int) ≤ 122 := by omega
   simp -implicitDefEqProofs [x514, h1, h2, h1', h2']
  ·have h2' : ¬ (n : Int) ≤ 122 := by omega
   have h3 : 65 ≤ n := by omega
   have h3' : (65 : Int) ≤ n := by omega
   have h4 : ¬ n ≤ 90 := by omega
   have h4' : ¬ (n : Int) ≤ 90 := by omega
   have h5 : ¬ n = 95 := by omega
   have h5' : ¬ (n : Int) = 95 := by omega
   simp -implicitDefEqProofs [x514, h1, h2, h1', h2', h3, h3', h4, h4', h5, h5']
 ·have h1' : ¬ (97 : Int) ≤ n := by omega
  by_cases h3 : 65 ≤ n
  ·have h3' : (65 : Int) ≤ n := by omega
   by_cases h4 : n ≤ 90
   ·have h4' : (n : Int) ≤ 90 := by omega
    simp -implicitDefEqProofs [x514, h1, h1', h3, h3', h4, h4']
   ·have h4' : ¬ (n : Int) ≤ 90 := by omega
    by_cases h5 : n = 95
    ·have h5' : (n : Int) = 95 := by omega
     simp -implicitDefEqProofs [x514, h1, h1', h3, h3', h4, h4', h5, h5']
    ·have h5' : ¬ (n : Int) = 95 := by omega
     simp -implicitDefEqProofs [x514, h1, h1', h3, h3', h4, h4', h5, h5']
  ·have h3' : ¬ (65 : Int) ≤ n := by omega
   have h5 : ¬ n = 95 := by omega
   have h5' : ¬ (n : Int) = 95 := by omega
   simp -implicitDefEqProofs [x514, h1, h1', h3, h3', h5, h5']
structure RefA (code : Nat → Option XFun) (ext : Calls') : Prop where
 c513 : code 513 = some x513
 c514 : code 514 = some x514
 c515 : code 515 = some x515
 c516 : code 516 = some x516
 c517 : code 517 = some x517
 c518 : code 518 = some x518
 c519 : code 519 = some x519
theorem zc7 {s : List UInt8} {i : Nat} {x : UInt8} {r : List UInt8} (h : s.drop i = x :: r) : s[i]? = some x ∧ i < s.length ∧ s.drop (i + 1) = r := by
 have hl := congrArg List.length h
 rw [List.length_drop, List.length_cons] at hl
 refine ⟨?_, by omega, ?_⟩
 ·have h0 := List.getElem?_drop (xs := s) (i := i) (j := 0)
  rw [Nat.add_zero] at h0
  rw [← h0, h]
  rfl
 ·rw [← List.drop_drop, h]
  rfl
theorem zc8 {s : List UInt8} {i : Nat} (h : s.drop i = []) : s.length ≤ i := List.drop_eq_nil_iff.1 h
theorem zon (c : RefA code ext) (s : List UInt8) (hs : s.length ≤ 1000000) (i : Nat) (hi : i ≤ s.length) :
  callW code ext 516 [strV (bs s), int64 i] [] = some (int64 ((i + ((s.drop i).takeWhile isWord).length : Nat) : Int), []) := by
 rw [zbi code ext c.c516]
 have hsz := za9 s
 have L : ∃ e s', den code ext (.loop [0, 1] x516L1) ⟨0, [(0, strV (bs s)), (1, int64 i)], []⟩ = some (e, s') ∧ e ≠ .normal ∧
   (e = .exit 0 ∧ s' = ⟨0, [(0, strV (bs s)), (1, int64 ((i + ((s.drop i).takeWhile isWord).length : Nat) : Int)), (20, avb false)], []⟩) := by
  refine zh9 (fun m st => ∃ k, k + m = s.length ∧ k + ((s.drop k).takeWhile isWord).length = i + ((s.drop i).takeWhile isWord).length ∧ st.tidy [0, 1] = ⟨0, [(0, strV (bs s)), (1, int64 k)], []⟩) _ ?_ (s.length - i) _ ⟨i, by omega, rfl, rfl⟩
  rintro m st ⟨k, hk, heq, hst⟩
  rw [hst]
  rw [← heq]
  clear hst heq
  cases hd : s.drop k with
  | nil =>
   have hge := zc8 hd
   have hkl : k = s.length := by omega
   refine ⟨.exit 0, _, ?_, .inr ⟨by simp, rfl, rfl⟩⟩
   have h1 : ¬ k < s.length := by omega
   simp only [List.takeWhile_nil, List.length_nil, Nat.add_zero]
   clear hd hk hkl
   generalize s.length = sl at *
   generalize bs s = S at *
   simp -implicitDefEqProofs [x516L1, hsz, h1]
  | cons x r =>
   obtain ⟨hx, hlt, hdr⟩ := zc7 hd
   have hget : ∀ hi : k < (bs s).size, (bs s)[k]'hi = x := fun hi => bs_at hx hi
   have hl := zn5 (ext := ext) c.c514 x
   have hdg := zm1 (ext := ext) c.c513 x
   by_cases hw : isWord x = true
   ·have e1 : IntKind.wrap .i64 ((k : Int) + 1) = ((k + 1 : Nat) : Int) := by rw [wrapI64 (by omega) (by omega)]; omega
    refine ⟨.normal, ⟨0, [(0, strV (bs s)), (1, int64 (k + 1 : Nat))], []⟩, ?_, .inl ⟨rfl, m - 1, by omega, k + 1, by omega, ?_, rfl⟩⟩
    ·clear hd hdr hx hk
     unfold isWord at hw
     cases h1 : isLetter x with
     | true =>
      rw [h1] at hl
      generalize s.length = sl at *
      generalize bs s = S at *
      generalize k + 1 = k1 at *
      simp -implicitDefEqProofs [x516L1, hsz, hlt, hget, hl, e1]
     | false =>
      rw [h1, Bool.or_false] at hw
      rw [h1] at hl
      rw [hw] at hdg
      generalize s.length = sl at *
      generalize bs s = S at *
      generalize k + 1 = k1 at *
      simp -implicitDefEqProofs [x516L1, hsz, hlt, hget, hl, hdg, e1]
    ·rw [hdr]
     have : (x :: r).takeWhile isWord = x :: r.takeWhile isWord := by simp [List.takeWhile, hw]
     rw [this, List.length_cons]
     omega
   ·have hw : isWord x = false := by simpa using hw
    have : (x :: r).takeWhile isWord = [] := by simp [List.takeWhile, hw]
    rw [this]
    unfold isWord at hw
    simp only [Bool.or_eq_false_iff] at hw
    rw [hw.2] at hl
    rw [hw.1] at hdg
    refine ⟨.exit 0, _, ?_, .inr ⟨by simp, rfl, rfl⟩⟩
    simp only [List.length_nil, Nat.add_zero]
    clear hd hdr hx hk
    generalize s.length = sl at *
    generalize bs s = S at *
    simp -implicitDefEqProofs [x516L1, hsz, hlt, hget, hl, hdg]
 obtain ⟨e, s', l1, _, rfl, rfl⟩ := L
 unfold x516
 generalize x516L1 = LL at *
 generalize i + ((s.drop i).takeWhile isWord).length = e at *
 generalize bs s = S at *
 simp -implicitDefEqProofs [l1]
end
end Go.EX


set_option linter.unusedVariables false
set_option linter.unusedSimpArgs false
namespace Go.EX
open Go.Lib
def valF (acc : Nat) (l : List UInt8) : Nat := l.foldl (fun n c => n * 10 + (c.toNat - 48)) acc
theorem zsj (acc : Nat) (c : UInt8) (l : List UInt8) : valF acc (c :: l) = valF (acc * 10 + (c.toNat - 48)) l := by unfold valF; rw [List.foldl_cons]
theorem zsm (acc : Nat) (l : List UInt8) (c : UInt8) : valF acc (l ++ [c]) = valF acc l * 10 + (c.toNat - 48) := by unfold valF; simp only [List.foldl_append, List.foldl_cons, List.foldl_nil]
theorem zsk : ∀ (l : List UInt8) (acc : Nat), acc ≤ valF acc l
 | [], acc => Nat.le_refl _
 | c :: l, acc => by
  rw [zsj]
  have := zsk l (acc * 10 + (c.toNat - 48))
  omega
theorem zsl : ∀ (l : List UInt8) (acc : Nat), (∀ x ∈ l, isDigit x = true) → valF acc l < (acc + 1) * 10 ^ l.length
 | [], acc, _ => by simp [valF]
 | c :: l, acc, h => by
  rw [zsj, List.length_cons, Nat.pow_succ]
  have h1 := zsl l (acc * 10 + (c.toNat - 48)) fun x hx => h x (List.mem_cons_of_mem _ hx)
  have hc := h c (List.mem_cons_self ..)
  unfold isDigit at hc
  simp only [Bool.and_eq_true, decide_eq_true_eq] at hc
  have h2 : (acc * 10 + (c.toNat - 48) + 1) * 10 ^ l.length ≤ ((acc + 1) * 10) * 10 ^ l.length := Nat.mul_le_mul_right _ (by omega)
  have h3 : (acc + 1) * 10 * 10 ^ l.length = (acc + 1) * (10 ^ l.length * 10) := by rw [Nat.mul_assoc, Nat.mul_comm 10]
  omega
theorem digit_of {c : UInt8} : isDigit c = true ↔ 48 ≤ c.toNat ∧ c.toNat ≤ 57 := by unfold isDigit; simp
theorem zls (M : Nat) : ∀ (l : List UInt8) (acc v : Nat), parseUintM M acc l = .ok v → (∀ x ∈ l, isDigit x = true) ∧ v = valF acc l
 | [], acc, v, h => by
  rw [parseUintM] at h
  cases h
  exact ⟨fun x hx => (by cases hx), rfl⟩
 | c :: l, acc, v, h => by
  rw [parseUintM] at h
  split at h
  ·rename_i hc
   split at h
   ·cases h
   ·split at h
    ·cases h
    ·obtain ⟨h1, h2⟩ := zls M l _ v h
     refine ⟨fun x hx => ?_, h2⟩
     rcases List.mem_cons.1 hx with rfl | hx
     ·exact digit_of.2 hc
     ·exact h1 x hx
  ·cases h
theorem zlt : ∀ (l : List UInt8) (acc : Nat), (∀ x ∈ l, isDigit x = true) → valF acc l ≤ 9223372036854775807 → parseUintM (2 ^ 64 - 1) acc l = .ok (valF acc l)
 | [], acc, _, _ => rfl
 | c :: l, acc, h, hv => by
  have hc := digit_of.1 (h c (List.mem_cons_self ..))
  rw [zsj] at hv ⊢
  have hge := zsk l (acc * 10 + (c.toNat - 48))
  rw [parseUintM, if_pos hc, if_neg (by omega), if_neg (by omega)]
  exact zlt l _ (fun x hx => h x (List.mem_cons_of_mem _ hx)) hv
theorem zcj : ∀ (u : Nat) (r : List UInt8), decDigits u = 48 :: r → r = [] := by
 intro u
 induction u using Nat.strongRecOn with
 | _ u ih =>
  intro r h
  by_cases hu : u < 10
  ·rw [decDigits, dif_pos hu] at h
   exact (List.cons.inj h).2.symm
  ·rw [decDigits, dif_neg hu] at h
   cases hd : decDigits (u / 10) with
   | nil => exact absurd hd (dec_ne _)
   | cons x q =>
    rw [hd, List.cons_append] at h
    have hx := (List.cons.inj h).1
    subst hx
    have hq := ih (u / 10) (by omega) q hd
    subst hq
    exfalso
    have h2 : ∀ n, decDigits n = [48] → n = 0 := by
     intro n hn
     by_cases h10 : n < 10
     ·rw [decDigits, dif_pos h10] at hn
      have := congrArg UInt8.toNat (List.cons.inj hn).1
      rw [zbb n h10] at this
      simp at this
      exact this
     ·rw [decDigits, dif_neg h10] at hn
      have := congrArg List.length hn
      rw [List.length_append, List.length_singleton, List.length_singleton] at this
      exact absurd (List.eq_nil_of_length_eq_zero (by omega)) (dec_ne (n / 10))
    have := h2 _ hd
    omega
theorem canon : ∀ (n : Nat) (w : List UInt8), w.length = n → (∀ x ∈ w, isDigit x = true) → w ≠ [] → (∀ x r, w = x :: r → x = 48 → r = []) → decDigits (valF 0 w) = w := by
 intro n
 induction n with
 | zero => intro w hw _ hne _; exact absurd (List.eq_nil_of_length_eq_zero hw) hne
 | succ n ih =>
  intro w hw hd hne hl
  obtain ⟨q, c, rfl⟩ : ∃ q c, w = q ++ [c] := ⟨w.dropLast, w.getLast hne, (List.dropLast_concat_getLast hne).symm⟩
  have hc := digit_of.1 (hd c (List.mem_append_right _ (List.mem_singleton.2 rfl)))
  have hcb : UInt8.ofNat (48 + (c.toNat - 48)) = c := by
   rw [show 48 + (c.toNat - 48) = c.toNat by omega]
   simp
  rw [zsm]
  by_cases hq : q = []
  ·subst hq
   show decDigits (0 * 10 + (c.toNat - 48)) = _
   rw [decDigits, dif_pos (by omega), show 0 * 10 + (c.toNat - 48) = c.toNat - 48 by omega, hcb]
   rfl
  ·have hlen : q.length = n := by rw [List.length_append, List.length_singleton] at hw; omega
   obtain ⟨x, r, rfl⟩ : ∃ x r, q = x :: r := by
    cases q with
    | nil => exact absurd rfl hq
    | cons x r => exact ⟨x, r, rfl⟩
   have hx48 : x ≠ 48 := by
    intro e
    have := hl x (r ++ [c]) rfl e
    simp at this
   have hxd := digit_of.1 (hd x (by simp))
   have hxn : x.toNat ≠ 48 := fun e => hx48 (UInt8.toNat_inj.1 e)
   have hv : 1 ≤ valF 0 (x :: r) := by
    rw [zsj]
    have := zsk r (0 * 10 + (x.toNat - 48))
    omega
   have hi := ih (x :: r) hlen (fun y hy => hd y (List.mem_append_left _ hy)) hq (fun y p h e => by
    cases h
    exact absurd e hx48)
   rw [decDigits, dif_neg (by omega)]
   have h1 : (valF 0 (x :: r) * 10 + (c.toNat - 48)) / 10 = valF 0 (x :: r) := by omega
   have h2 : (valF 0 (x :: r) * 10 + (c.toNat - 48)) % 10 = c.toNat - 48 := by omega
   rw [h1, h2, hi, hcb]
theorem zlr {x : UInt8} (hx : isDigit x = true) (r : List UInt8) : parseIntB 64 (x :: r) = match parseUintM (2 ^ 64 - 1) 0 (x :: r) with
  | .ok u => if 9223372036854775808 ≤ u then .range else .ok (u : Int)
  | .range => .range
  | .«syntax» => .«syntax» := by
 have hc := digit_of.1 hx
 have h43 : ¬ (x.toNat = 43 ∨ x.toNat = 45) := by omega
 have h45 : ¬ x.toNat = 45 := by omega
 unfold parseIntB parseUintB
 dsimp only
 rw [if_neg h43, if_neg (by simp)]
 cases parseUintM (2 ^ 64 - 1) 0 (x :: r) with
 | ok u =>
  dsimp only
  by_cases hu : 9223372036854775808 ≤ u
  ·rw [if_pos ⟨h45, by simpa using hu⟩, if_pos hu]
  ·rw [if_neg (by intro h; exact hu (by simpa using h.2)), if_neg (by intro h; exact h45 h.1), if_neg h45, if_neg hu]
 | range => rfl
 | «syntax» => rfl
theorem zkt {x : UInt8} (hx : isDigit x = true) (r : List UInt8) :
  (numOk (x :: r) = true ↔ (x :: r).length ≤ 19 ∧ ¬ (x = 48 ∧ r ≠ []) ∧ (∀ y ∈ x :: r, isDigit y = true) ∧ valF 0 (x :: r) ≤ 9223372036854775807) ∧
  (numOk (x :: r) = true → numN (x :: r) = (valF 0 (x :: r) : Nat)) := by
 have hp := zlr hx r
 constructor
 ·constructor
  ·intro h
   unfold numOk at h
   rw [hp] at h
   cases hu : parseUintM (2 ^ 64 - 1) 0 (x :: r) with
   | ok u =>
    rw [hu] at h
    dsimp only at h
    by_cases hr : 9223372036854775808 ≤ u
    ·rw [if_pos hr] at h; cases h
    ·rw [if_neg hr] at h
     have hv := of_decide_eq_true h
     rw [itoa_nonneg] at hv
     obtain ⟨g1, g2⟩ := zls _ _ _ _ hu
     have hl := zck 18 u (by omega)
     rw [hv] at hl
     refine ⟨hl, ?_, g1, by omega⟩
     rintro ⟨rfl, hne⟩
     exact hne (zcj u r hv)
   | range => rw [hu] at h; cases h
   | «syntax» => rw [hu] at h; cases h
  ·rintro ⟨h1, h2, h3, h4⟩
   unfold numOk
   rw [hp, zlt _ 0 h3 h4]
   dsimp only
   rw [if_neg (by omega)]
   have := canon _ (x :: r) rfl h3 (by simp) (fun y p h e => by cases h; exact Classical.byContradiction fun hn => h2 ⟨e, hn⟩)
   dsimp only
   rw [itoa_nonneg, this]
   simp
 ·intro h
  unfold numOk at h
  unfold numN
  rw [hp] at h ⊢
  cases hu : parseUintM (2 ^ 64 - 1) 0 (x :: r) with
  | ok u =>
   rw [hu] at h
   dsimp only at h ⊢
   by_cases hr : 9223372036854775808 ≤ u
   ·rw [if_pos hr] at h; cases h
   ·rw [if_neg hr]
    obtain ⟨_, g2⟩ := zls _ _ _ _ hu
    rw [g2]
  | range => rw [hu] at h; cases h
  | «syntax» => rw [hu] at h; cases h
end Go.EX


set_option linter.unusedVariables false
set_option linter.unusedSimpArgs false
namespace Go.EX
open Go.Lib
section
variable {code : Nat → Option XFun} {ext : Calls'}
theorem zn6 (c : RefA code ext) (w : List UInt8) (hw : w.length ≤ 19) :
  ∃ e s', den code ext (.loop [0, 4, 5] x515L1) ⟨0, [(0, strV (bs w)), (4, uint64 0), (5, int64 0)], []⟩ = some (e, s') ∧ e ≠ .normal ∧
   ((e = .exit 0 ∧ (∀ x ∈ w, isDigit x = true) ∧ s' = ⟨0, [(0, strV (bs w)), (4, uint64 (valF 0 w : Nat)), (5, int64 w.length), (22, avb false)], []⟩) ∨
    (e = .ret ∧ ¬ (∀ x ∈ w, isDigit x = true) ∧ s' = ⟨0, [(2, int64 0), (3, avb false)], []⟩)) := by
 have hsz := za9 w
 refine zh9 (fun m st => ∃ i, i + m = w.length ∧ (∀ x ∈ w.take i, isDigit x = true) ∧ st.tidy [0, 4, 5] = ⟨0, [(0, strV (bs w)), (4, uint64 (valF 0 (w.take i) : Nat)), (5, int64 i)], []⟩) _ ?_ w.length _ ⟨0, by simp, fun x hx => by simp at hx, rfl⟩
 rintro m st ⟨i, hi, hdig, hst⟩
 rw [hst]
 clear hst
 by_cases hlt : i < w.length
 ·obtain ⟨x, hx⟩ : ∃ x, w[i]? = some x := ⟨_, List.getElem?_eq_getElem hlt⟩
  have hget : ∀ hi : i < (bs w).size, (bs w)[i]'hi = x := fun hi => bs_at hx hi
  have hdg := zm1 (ext := ext) c.c513 x
  by_cases hd : isDigit x = true
  ·have htk : w.take (i + 1) = w.take i ++ [x] := by rw [List.take_add_one, hx]; rfl
   have hall : ∀ y ∈ w.take (i + 1), isDigit y = true := by
    intro y hy
    rw [htk, List.mem_append, List.mem_singleton] at hy
    rcases hy with hy | rfl
    ·exact hdig y hy
    ·exact hd
   have hv : valF 0 (w.take (i + 1)) = valF 0 (w.take i) * 10 + (x.toNat - 48) := by rw [htk, zsm]
   have hlt2 := zsl (w.take i) 0 hdig
   rw [List.length_take] at hlt2
   have hpow : 10 ^ (min i w.length) ≤ 10 ^ 18 := Nat.pow_le_pow_right (by omega) (by omega)
   have hx2 := digit_of.1 hd
   have hb : valF 0 (w.take i) < 1000000000000000000 := by omega
   have e1 : IntKind.wrap .u64 (10 * (valF 0 (w.take i) : Int)) = ((valF 0 (w.take i) * 10 : Nat) : Int) := by rw [wrapU64 (by omega) (by omega)]; omega
   have e2 : IntKind.wrap .u8 ((x.toNat : Int) - 48) = ((x.toNat - 48 : Nat) : Int) := by
    simp only [IntKind.wrap, IntKind.signed, IntKind.bits]
    simp
    omega
   have e3 : IntKind.wrap .u64 ((x.toNat - 48 : Nat) : Int) = ((x.toNat - 48 : Nat) : Int) := wrapU64 (by omega) (by omega)
   have e4 : IntKind.wrap .u64 (((valF 0 (w.take i) * 10 : Nat) : Int) + ((x.toNat - 48 : Nat) : Int)) = ((valF 0 (w.take (i + 1)) : Nat) : Int) := by rw [wrapU64 (by omega) (by omega)]; omega
   have e5 : IntKind.wrap .i64 ((i : Int) + 1) = ((i + 1 : Nat) : Int) := by rw [wrapI64 (by omega) (by omega)]; omega
   rw [hd] at hdg
   refine ⟨.normal, ⟨0, [(0, strV (bs w)), (4, uint64 (valF 0 (w.take (i + 1)) : Nat)), (5, int64 (i + 1 : Nat))], []⟩, ?_, .inl ⟨rfl, m - 1, by omega, i + 1, by omega, hall, rfl⟩⟩
   clear hv htk hall hlt2 hpow hx2 hb hd hdig hi hx
   generalize valF 0 (w.take (i + 1)) = V2 at *
   generalize valF 0 (w.take i) * 10 = V10 at *
   generalize valF 0 (w.take i) = V at *
   generalize x.toNat - 48 = d at *
   generalize i + 1 = i1 at *
   generalize w.length = wl at *
   generalize bs w = W at *
   simp -implicitDefEqProofs [x515L1, hsz, hlt, hget, hdg, e1, e2, e3, e4, e5]
  ·have hd : isDigit x = false := by simpa using hd
   rw [hd] at hdg
   refine ⟨.ret, _, ?_, .inr ⟨by simp, .inr ⟨rfl, ?_, rfl⟩⟩⟩
   ·clear hi hx hdig
    generalize valF 0 (w.take i) = V at *
    generalize w.length = wl at *
    generalize bs w = W at *
    simp -implicitDefEqProofs [x515L1, hsz, hlt, hget, hdg]
   ·intro h
    have := h x (List.mem_of_getElem? hx)
    rw [hd] at this
    cases this
 ·have hil : i = w.length := by omega
  subst hil
  rw [List.take_length] at hdig ⊢
  refine ⟨.exit 0, _, ?_, .inr ⟨by simp, .inl ⟨rfl, hdig, rfl⟩⟩⟩
  clear hi hdig
  generalize valF 0 w = V at *
  generalize w.length = wl at *
  generalize bs w = W at *
  simp -implicitDefEqProofs [x515L1, hsz]
theorem zn7 (c : RefA code ext) {x : UInt8} (hx : isDigit x = true) (r : List UInt8) (hr : (x :: r).length ≤ 1000000) :
  ∃ X, callW code ext 515 [strV (bs (x :: r))] [] = some (.tup [int64 X, avb (numOk (x :: r))], []) ∧ (numOk (x :: r) = true → X = numN (x :: r)) := by
 obtain ⟨n1, n2⟩ := zkt hx r
 have hsz := za9 (x :: r)
 have hget : ∀ hi : 0 < (bs (x :: r)).size, (bs (x :: r))[0]'hi = x := fun hi => bs_at rfl hi
 have hxd := digit_of.1 hx
 have hpos : 0 < (x :: r).length := by simp
 rw [zbi code ext c.c515]
 by_cases hbig : (x :: r).length ≤ 19
 ·have hb1 : ¬ (19 : Int) < ((x :: r).length : Int) := by omega
  by_cases hz : x = 48 ∧ r ≠ []
  ·have hno : numOk (x :: r) = false := by
    cases h : numOk (x :: r) with
    | false => rfl
    | true => exact absurd hz (n1.1 h).2.1
   rw [hno]
   refine ⟨0, ?_, fun h => by cases h⟩
   have hx48 : (x.toNat : Int) = 48 := by rw [hz.1]; rfl
   have hx48' : x.toNat = 48 := by omega
   have hl1 : 1 < (x :: r).length := by
    cases r with
    | nil => exact absurd rfl hz.2
    | cons y q => simp
   have hl1' : (1 : Int) < ((x :: r).length : Int) := by omega
   unfold x515
   clear n1 n2 hz hbig hno hr
   generalize x515L1 = LL at *
   generalize (x :: r).length = wl at *
   generalize bs (x :: r) = W at *
   simp -implicitDefEqProofs [hsz, hb1, hget, hpos, hx48, hx48', hl1, hl1']
  ·obtain ⟨e, s', l1, _, hor⟩ := zn6 c (x :: r) hbig
   have hcond : ¬ (x.toNat = 48 ∧ 1 < (x :: r).length) := by
    rintro ⟨h1, h2⟩
    refine hz ⟨UInt8.toNat_inj.1 h1, ?_⟩
    intro e
    subst e
    simp at h2
   have hno : numOk (x :: r) = true ↔ (∀ y ∈ x :: r, isDigit y = true) ∧ valF 0 (x :: r) ≤ 9223372036854775807 := n1.trans ⟨fun h => ⟨h.2.2.1, h.2.2.2⟩, fun h => ⟨hbig, hz, h.1, h.2⟩⟩
   rcases hor with ⟨rfl, hall, rfl⟩ | ⟨rfl, hnot, rfl⟩
   ·have hle : (numOk (x :: r)) = decide (((valF 0 (x :: r) : Nat) : Int) ≤ 9223372036854775807) := by
     by_cases hv : valF 0 (x :: r) ≤ 9223372036854775807
     ·rw [hno.2 ⟨hall, hv⟩]; simp; omega
     ·cases h : numOk (x :: r) with
      | true => exact absurd (hno.1 h).2 hv
      | false => simp; omega
    refine ⟨IntKind.wrap .i64 (valF 0 (x :: r) : Nat), ?_, fun h => ?_⟩
    ·rw [hle]
     unfold x515
     clear n1 n2 hz hbig hno hr hall hle
     generalize x515L1 = LL at *
     generalize valF 0 (x :: r) = V at *
     by_cases h48 : x.toNat = 48
     ·have h48' : (x.toNat : Int) = 48 := by omega
      have hl1 : ¬ 1 < (x :: r).length := fun h => hcond ⟨h48, h⟩
      have hl1' : ¬ (1 : Int) < ((x :: r).length : Int) := by omega
      clear hcond
      generalize (x :: r).length = wl at *
      generalize bs (x :: r) = W at *
      simp -implicitDefEqProofs [hsz, hb1, hget, hpos, h48, h48', hl1, hl1', l1]
     ·have h48' : ¬ (x.toNat : Int) = 48 := by omega
      clear hcond
      generalize (x :: r).length = wl at *
      generalize bs (x :: r) = W at *
      simp -implicitDefEqProofs [hsz, hb1, hget, hpos, h48, h48', l1]
    ·rw [n2 h, wrapI64 (by omega) (by have := (hno.1 h).2; omega)]
   ·have hno' : numOk (x :: r) = false := by
     cases h : numOk (x :: r) with
     | false => rfl
     | true => exact absurd (hno.1 h).1 hnot
    rw [hno']
    refine ⟨0, ?_, fun h => by cases h⟩
    unfold x515
    clear n1 n2 hz hbig hno hr hnot hno'
    generalize x515L1 = LL at *
    by_cases h48 : x.toNat = 48
    ·have h48' : (x.toNat : Int) = 48 := by omega
     have hl1 : ¬ 1 < (x :: r).length := fun h => hcond ⟨h48, h⟩
     have hl1' : ¬ (1 : Int) < ((x :: r).length : Int) := by omega
     clear hcond
     generalize (x :: r).length = wl at *
     generalize bs (x :: r) = W at *
     simp -implicitDefEqProofs [hsz, hb1, hget, hpos, h48, h48', hl1, hl1', l1]
    ·have h48' : ¬ (x.toNat : Int) = 48 := by omega
     clear hcond
     generalize (x :: r).length = wl at *
     generalize bs (x :: r) = W at *
     simp -implicitDefEqProofs [hsz, hb1, hget, hpos, h48, h48', l1]
 ·have hno : numOk (x :: r) = false := by
   cases h : numOk (x :: r) with
   | false => rfl
   | true => exact absurd (n1.1 h).1 hbig
  rw [hno]
  refine ⟨0, ?_, fun h => by cases h⟩
  have hb1 : (19 : Int) < ((x :: r).length : Int) := by omega
  unfold x515
  clear n1 n2 hno hr hbig
  generalize x515L1 = LL at *
  generalize (x :: r).length = wl at *
  generalize bs (x :: r) = W at *
  simp -implicitDefEqProofs [hsz, hb1]
end
end Go.EX


set_option linter.unusedVariables false
set_option linter.unusedSimpArgs false
namespace Go.EX
open Go.Lib
def signs1 : List UInt8 := [40, 41, 123, 125, 91, 93, 44, 59, 58, 61, 60, 43, 45, 42, 47, 37, 35, 36]
def signB (x : UInt8) (H : Bool) : Option (List UInt8) := signs5.find? fun s => match s with
 | [a, _] => decide (x = a) && H
 | [a] => decide (x = a)
 | _ => false
def signR (x : UInt8) (H : Bool) : Option (List UInt8) := if ((decide (x = 61) || decide (x = 33)) || decide (x = 60)) && H then some [x, 61] else if signs1.contains x then some [x] else none
theorem zp8 : ∀ n : Fin 256, signB (UInt8.ofNat n.val) true = signR (UInt8.ofNat n.val) true ∧ signB (UInt8.ofNat n.val) false = signR (UInt8.ofNat n.val) false := by decide +kernel
theorem zp9 (x : UInt8) (H : Bool) : signB x H = signR x H := by
 have h := zp8 ⟨x.toNat, x.toNat_lt⟩
 have hx : UInt8.ofNat x.toNat = x := by simp
 dsimp only at h
 rw [hx] at h
 cases H with
 | true => exact h.1
 | false => exact h.2
theorem zqa (x : UInt8) (r : List UInt8) : signOf (x :: r) = signR x (hasPre [61] r) := by
 rw [← zp9]
 unfold signOf signB
 have h2 : ∀ a : UInt8, hasPre [a, 61] (x :: r) = (decide (x = a) && hasPre [61] r) := by
  intro a
  unfold hasPre
  cases r with
  | nil => simp
  | cons y q => simp [Bool.decide_and]
 have h1 : ∀ a : UInt8, hasPre [a] (x :: r) = decide (x = a) := by
  intro a
  unfold hasPre
  simp
 unfold signs5
 simp only [List.find?, h1, h2]
section
variable {code : Nat → Option XFun} {ext : Calls'}
def s517b : XCode := match x517 with
 | ⟨_, .seq _ (.seq p _)⟩ => p
 | _ => .skip
def s517c : XCode := match x517 with
 | ⟨_, .seq _ (.seq _ (.seq p _))⟩ => p
 | _ => .skip
def s517d : XCode := match x517 with
 | ⟨_, .seq _ (.seq _ (.seq _ p))⟩ => p
 | _ => .skip
theorem ztu : x517 = ⟨[.tmp 4], .seq (.region [0, 1] [⟨some 4, .mv (.c (.string .empty)), none⟩]) (.seq s517b (.seq s517c s517d))⟩ := rfl
theorem zpi (s : List UInt8) (i : Nat) (x : UInt8) (r : List UInt8) (hs : s.length ≤ 1000000) (hd : s.drop i = x :: r) (hx : x ∈ signs1) :
  den code ext s517c ⟨0, [(0, strV (bs s)), (1, int64 i), (34, avb false)], []⟩ = some (.ret, ⟨0, [(4, strV (bs [x]))], []⟩) := by
 obtain ⟨hat, hlt, _⟩ := zc7 hd
 have hsz := za9 s
 have hget : ∀ hi : i < (bs s).size, (bs s)[i]'hi = x := fun hi => bs_at hat hi
 have e1 : IntKind.wrap .i64 ((i : Int) + 1) = (i : Int) + 1 := wrapI64 (by omega) (by omega)
 have hext : (bs s).extract i (i + 1) = bs [x] := by rw [za8, hd, show i + 1 - i = 1 by omega]; rfl
 have b1 : (i : Int) ≤ (i : Int) + 1 := by omega
 have b2 : (i : Int) + 1 ≤ (s.length : Int) := by omega
 have b3 : (0 : Int) ≤ (i : Int) := by omega
 have b4 : ((i : Int) + 1).toNat = i + 1 := by omega
 clear hd hat
 generalize s.length = sl at *
 generalize bs s = S at *
 unfold signs1 at hx
 simp only [List.mem_cons, List.not_mem_nil, or_false] at hx
 rcases hx with rfl | rfl | rfl | rfl | rfl | rfl | rfl | rfl | rfl | rfl | rfl | rfl | rfl | rfl | rfl | rfl | rfl | rfl <;>
  simp -implicitDefEqProofs [s517c, x517, hsz, hlt, hget, e1, hext, bounds, b1, b2, b3, b4]
theorem zph (s : List UInt8) (i : Nat) (x : UInt8) (r : List UInt8) (hs : s.length ≤ 1000000) (hd : s.drop i = x :: r) (hx : ¬ x ∈ signs1) :
  ∃ E, den code ext s517c ⟨0, [(0, strV (bs s)), (1, int64 i), (34, avb false)], []⟩ = some (.normal, ⟨0, E, []⟩) := by
 obtain ⟨hat, hlt, _⟩ := zc7 hd
 have hsz := za9 s
 have hget : ∀ hi : i < (bs s).size, (bs s)[i]'hi = x := fun hi => bs_at hat hi
 have hn : ∀ a ∈ signs1, ¬ (x.toNat : Int) = (a.toNat : Int) := fun a ha e => hx (by have : x = a := UInt8.toNat_inj.1 (by omega); rw [this]; exact ha)
 have hn' : ∀ a ∈ signs1, ¬ x.toNat = a.toNat := fun a ha e => hn a ha (by omega)
 unfold signs1 at hn hn'
 simp only [List.forall_mem_cons] at hn hn'
 obtain ⟨q1, q2, q3, q4, q5, q6, q7, q8, q9, q10, q11, q12, q13, q14, q15, q16, q17, q18, _⟩ := hn
 obtain ⟨p1, p2, p3, p4, p5, p6, p7, p8, p9, p10, p11, p12, p13, p14, p15, p16, p17, p18, _⟩ := hn'
 clear hd hat hx
 generalize s.length = sl at *
 generalize bs s = S at *
 refine ⟨[(0, strV S), (1, int64 i), (43, avb false)], ?_⟩
 simp at q1 q2 q3 q4 q5 q6 q7 q8 q9 q10 q11 q12 q13 q14 q15 q16 q17 q18 p1 p2 p3 p4 p5 p6 p7 p8 p9 p10 p11 p12 p13 p14 p15 p16 p17 p18
 simp -implicitDefEqProofs [s517c, x517, hsz, hlt, hget, q1, q2, q3, q4, q5, q6, q7, q8, q9, q10, q11, q12, q13, q14, q15, q16, q17, q18, p1, p2, p3, p4, p5, p6, p7, p8, p9, p10, p11, p12, p13, p14, p15, p16, p17, p18]
theorem zpg (s : List UInt8) (i : Nat) (x : UInt8) (q : List UInt8) (hs : s.length ≤ 1000000) (hd : s.drop i = x :: 61 :: q) (hx : x = 61 ∨ x = 33 ∨ x = 60) :
  den code ext s517b ⟨0, [(0, strV (bs s)), (1, int64 i)], []⟩ = some (.ret, ⟨0, [(4, strV (bs [x, 61]))], []⟩) := by
 obtain ⟨hat, hlt, hd2⟩ := zc7 hd
 obtain ⟨hat2, hlt2, _⟩ := zc7 hd2
 have hsz := za9 s
 have hget : ∀ hi : i < (bs s).size, (bs s)[i]'hi = x := fun hi => bs_at hat hi
 have hget2 : ∀ hi : i + 1 < (bs s).size, (bs s)[i + 1]'hi = 61 := fun hi => bs_at hat2 hi
 have e1 : IntKind.wrap .i64 ((i : Int) + 1) = (i : Int) + 1 := wrapI64 (by omega) (by omega)
 have e2 : IntKind.wrap .i64 ((i : Int) + 2) = (i : Int) + 2 := wrapI64 (by omega) (by omega)
 have hext : (bs s).extract i (i + 2) = bs [x, 61] := by rw [za8, hd, show i + 2 - i = 2 by omega]; rfl
 have b0 : (i : Int) + 1 < (s.length : Int) := by omega
 have b1 : (i : Int) ≤ (i : Int) + 2 := by omega
 have b2 : (i : Int) + 2 ≤ (s.length : Int) := by omega
 have b3 : (0 : Int) ≤ (i : Int) + 1 := by omega
 have b4 : ((i : Int) + 1).toNat = i + 1 := by omega
 have b5 : ((i : Int) + 2).toNat = i + 2 := by omega
 clear hd hd2 hat hat2
 generalize s.length = sl at *
 generalize bs s = S at *
 rcases hx with rfl | rfl | rfl <;>
  simp -implicitDefEqProofs [s517b, x517, hsz, hlt, hlt2, hget, hget2, e1, e2, hext, bounds, b0, b1, b2, b3, b4, b5]
theorem zpf (s : List UInt8) (i : Nat) (x : UInt8) (r : List UInt8) (hs : s.length ≤ 1000000) (hd : s.drop i = x :: r) (hx : ¬ ((x = 61 ∨ x = 33 ∨ x = 60) ∧ hasPre [61] r = true)) :
  den code ext s517b ⟨0, [(0, strV (bs s)), (1, int64 i)], []⟩ = some (.normal, ⟨0, [(0, strV (bs s)), (1, int64 i), (34, avb false)], []⟩) := by
 obtain ⟨hat, hlt, hd2⟩ := zc7 hd
 have hsz := za9 s
 have hget : ∀ hi : i < (bs s).size, (bs s)[i]'hi = x := fun hi => bs_at hat hi
 have e1 : IntKind.wrap .i64 ((i : Int) + 1) = (i : Int) + 1 := wrapI64 (by omega) (by omega)
 cases r with
 | nil =>
  have hend := zc8 hd2
  have b0 : ¬ (i : Int) + 1 < (s.length : Int) := by omega
  clear hd hd2 hat hx hend
  generalize s.length = sl at *
  generalize bs s = S at *
  simp -implicitDefEqProofs [s517b, x517, hsz, hlt, e1, b0]
 | cons y q =>
  obtain ⟨hat2, hlt2, _⟩ := zc7 hd2
  have hget2 : ∀ hi : i + 1 < (bs s).size, (bs s)[i + 1]'hi = y := fun hi => bs_at hat2 hi
  have b0 : (i : Int) + 1 < (s.length : Int) := by omega
  have b3 : (0 : Int) ≤ (i : Int) + 1 := by omega
  have b4 : ((i : Int) + 1).toNat = i + 1 := by omega
  by_cases hy : y = 61
  ·subst hy
   have hp : hasPre [61] (61 :: q) = true := by unfold hasPre; simp
   rw [hp] at hx
   have g : ∀ a : UInt8, ¬ x = a → ¬ (x.toNat : Int) = (a.toNat : Int) := fun a h e => h (UInt8.toNat_inj.1 (by omega))
   have g1 : ¬ (x.toNat : Int) = 61 := g 61 fun e => hx ⟨.inl e, rfl⟩
   have g2 : ¬ (x.toNat : Int) = 33 := g 33 fun e => hx ⟨.inr (.inl e), rfl⟩
   have g3 : ¬ (x.toNat : Int) = 60 := g 60 fun e => hx ⟨.inr (.inr e), rfl⟩
   have g1' : ¬ x.toNat = 61 := by omega
   have g2' : ¬ x.toNat = 33 := by omega
   have g3' : ¬ x.toNat = 60 := by omega
   clear hd hd2 hat hat2 hx hp g
   generalize s.length = sl at *
   generalize bs s = S at *
   simp -implicitDefEqProofs [s517b, x517, hsz, hlt, hlt2, hget, hget2, e1, b0, b3, b4, g1, g2, g3, g1', g2', g3']
  ·have g1 : ¬ (y.toNat : Int) = 61 := fun e => hy (UInt8.toNat_inj.1 (by show y.toNat = 61; omega))
   have g1' : ¬ y.toNat = 61 := by omega
   clear hd hd2 hat hat2 hx hy
   generalize s.length = sl at *
   generalize bs s = S at *
   simp -implicitDefEqProofs [s517b, x517, hsz, hlt, hlt2, hget2, e1, b0, b3, b4, g1, g1']
theorem zoo (c : RefA code ext) (s : List UInt8) (i : Nat) (x : UInt8) (r : List UInt8) (hs : s.length ≤ 1000000) (hd : s.drop i = x :: r) :
  callW code ext 517 [strV (bs s), int64 i] [] = some (strV (bs ((signOf (x :: r)).getD [])), []) := by
 rw [zbi code ext c.c517, ztu, zqa]
 unfold signR
 by_cases h2 : (x = 61 ∨ x = 33 ∨ x = 60) ∧ hasPre [61] r = true
 ·obtain ⟨h3, h4⟩ := h2
  obtain ⟨q, rfl⟩ : ∃ q, r = 61 :: q := by
   cases r with
   | nil => simp [hasPre] at h4
   | cons y q =>
    refine ⟨q, ?_⟩
    simp [hasPre] at h4
    rw [h4]
  have hb := zpg (code := code) (ext := ext) s i x q hs hd h3
  have hc : ((((decide (x = 61) || decide (x = 33)) || decide (x = 60)) && hasPre [61] (61 :: q)) = true) := by
   rw [h4]
   rcases h3 with rfl | rfl | rfl <;> decide
  rw [if_pos hc, Option.getD_some]
  clear hc h3 h4 hd hs
  generalize s517b = PB at *
  generalize s517c = PC at *
  generalize s517d = PD at *
  generalize bs s = S at *
  simp -implicitDefEqProofs [hb]
 ·have hb := zpf (code := code) (ext := ext) s i x r hs hd h2
  have hc : ¬ ((((decide (x = 61) || decide (x = 33)) || decide (x = 60)) && hasPre [61] r) = true) := by
   intro h
   rw [Bool.and_eq_true, Bool.or_eq_true, Bool.or_eq_true, decide_eq_true_eq, decide_eq_true_eq, decide_eq_true_eq] at h
   exact h2 ⟨by rcases h.1 with (h | h) | h <;> simp [h], h.2⟩
  rw [if_neg hc]
  by_cases h1 : x ∈ signs1
  ·have hcc := zpi (code := code) (ext := ext) s i x r hs hd h1
   rw [if_pos (by simpa using h1), Option.getD_some]
   clear hc h2 hd hs h1
   generalize s517b = PB at *
   generalize s517c = PC at *
   generalize s517d = PD at *
   generalize bs s = S at *
   simp -implicitDefEqProofs [hb, hcc]
  ·obtain ⟨E, hcc⟩ := zph (code := code) (ext := ext) s i x r hs hd h1
   rw [if_neg (by simpa using h1), Option.getD_none]
   have hd' : s517d = (.seq (.region [4] [⟨some 4, .mv (.c (.string .empty)), none⟩]) .ret) := rfl
   rw [hd']
   have he : bs [] = ByteArray.empty := rfl
   rw [he]
   clear hc h2 hd hs h1
   generalize s517b = PB at *
   generalize s517c = PC at *
   generalize bs s = S at *
   simp -implicitDefEqProofs [hb, hcc]
end
end Go.EX


set_option linter.unusedVariables false
set_option linter.unusedSimpArgs false
namespace Go.EX
open Go.Lib
theorem zrq (acc : List UInt8) : textL acc [] = none := zre acc rfl
theorem zrt (acc r : List UInt8) : textL acc (34 :: r) = some (acc, r) := by
 have h := zrh [] acc r
 rw [List.append_nil] at h
 exact h
theorem zrr (acc r : List UInt8) : textL acc (10 :: r) = none := by
 have hd : (10 :: r).dropWhile isPlain = 10 :: r := by simp [List.dropWhile, show isPlain 10 = false by decide]
 exact zre acc (by rw [hd]; rfl)
theorem zrz (acc : List UInt8) {d e : UInt8} (r : List UInt8) (h : stepT (92 :: d :: r) = some (some e)) : textL acc (92 :: d :: r) = textL (acc ++ [e]) r := by
 have hd : (92 :: d :: r).dropWhile isPlain = 92 :: d :: r := by simp [List.dropWhile, plain92]
 have ht : (92 :: d :: r).takeWhile isPlain = [] := by simp [List.takeWhile, plain92]
 rw [zrj acc (c := e) (by rw [hd]; exact h), hd, ht]
 simp
theorem zrs (acc : List UInt8) {r : List UInt8} (h : stepT (92 :: r) = none) : textL acc (92 :: r) = none := by
 have hd : (92 :: r).dropWhile isPlain = 92 :: r := by simp [List.dropWhile, plain92]
 exact zre acc (by rw [hd]; exact h)
section
variable {code : Nat → Option XFun} {ext : Calls'}
set_option maxHeartbeats 2000000 in
theorem zop (c : RefA code ext) (s : List UInt8) (hs : s.length ≤ 1000000) (i : Nat) (hi : i ≤ s.length) :
  ∃ e s', den code ext (.loop [0, 1, 7] x518L1) ⟨0, [(0, strV (bs s)), (1, int64 i), (7, nilS)], []⟩ = some (e, s') ∧ e ≠ .normal ∧
   ((e = .exit 0 ∧ textL [] (s.drop i) = none ∧ ∃ k E M, s' = ⟨0, (0, strV (bs s)) :: (1, int64 k) :: E, M⟩) ∨
    (e = .ret ∧ textL [] (s.drop i) = none ∧ ∃ k M, s' = ⟨0, [(4, strV .empty), (5, int64 k), (6, avb false)], M⟩) ∨
    (e = .ret ∧ ∃ t q M, textL [] (s.drop i) = some (t, q) ∧ s' = ⟨0, [(4, strV (bs t)), (5, int64 ((s.length - q.length : Nat) : Int)), (6, avb (decide (t.length ≤ 4096)))], M⟩)) := by
 have hsz := za9 s
 refine zh9 (fun m st => ∃ k acc, k + m = s.length ∧ acc.length ≤ k ∧ textL acc (s.drop k) = textL [] (s.drop i) ∧ st.tidy [0, 1, 7] = ⟨0, [(0, strV (bs s)), (1, int64 k), (7, bV acc)], bM acc⟩) _ ?_ (s.length - i) _
  ⟨i, [], by omega, by simp, rfl, by unfold bV bM; simp -implicitDefEqProofs⟩
 rintro m st ⟨k, acc, hk, hacc, heq, hst⟩
 rw [hst, ← heq]
 clear hst heq
 cases hd : s.drop k with
 | nil =>
  have hge := zc8 hd
  have h1 : ¬ k < s.length := by omega
  refine ⟨.exit 0, ⟨0, [(0, strV (bs s)), (1, int64 k), (7, bV acc), (18, avb false)], bM acc⟩, ?_, .inr ⟨by simp, .inl ⟨rfl, zrq acc, k, _, _, rfl⟩⟩⟩
  clear hd hk hge
  unfold bV bM
  by_cases h0 : acc.length = 0
  ·rw [if_pos h0, if_pos h0]
   generalize s.length = sl at *
   generalize bs s = S at *
   simp -implicitDefEqProofs [x518L1, hsz, h1]
  ·rw [if_neg h0, if_neg h0]
   generalize s.length = sl at *
   generalize bs s = S at *
   simp -implicitDefEqProofs [x518L1, hsz, h1]
 | cons x r =>
  obtain ⟨hat, hlt, hdr⟩ := zc7 hd
  have hget : ∀ hi : k < (bs s).size, (bs s)[k]'hi = x := fun hi => bs_at hat hi
  have e1 : IntKind.wrap .i64 ((k : Int) + 1) = ((k + 1 : Nat) : Int) := by rw [wrapI64 (by omega) (by omega)]; omega
  have hln := zoc acc
  have hcut : cut (rowB acc) 0 acc.length = some (rowB acc) := zca _ hln
  have hle : acc.length ≤ 140737488355327 := by omega
  have g : ∀ a : UInt8, ¬ x = a → ¬ (x.toNat : Int) = (a.toNat : Int) := fun a h e => h (UInt8.toNat_inj.1 (by omega))
  by_cases h10 : x = 10
  ·subst h10
   refine ⟨.exit 0, ⟨0, [(0, strV (bs s)), (1, int64 k), (7, bV acc), (18, avb false)], bM acc⟩, ?_, .inr ⟨by simp, .inl ⟨rfl, zrr acc r, k, _, _, rfl⟩⟩⟩
   clear hd hk hdr hat
   unfold bV bM
   by_cases h0 : acc.length = 0
   ·rw [if_pos h0, if_pos h0]
    generalize s.length = sl at *
    generalize bs s = S at *
    simp -implicitDefEqProofs [x518L1, hsz, hlt, hget]
   ·rw [if_neg h0, if_neg h0]
    generalize s.length = sl at *
    generalize bs s = S at *
    simp -implicitDefEqProofs [x518L1, hsz, hlt, hget]
  have g10 := g 10 h10
  have g10' : ¬ x.toNat = 10 := fun e => g10 (by show (x.toNat : Int) = 10; omega)
  have g10 : ¬ (x.toNat : Int) = 10 := g10
  by_cases h34 : x = 34
  ·subst h34
   have hlr := congrArg List.length hdr
   rw [List.length_drop] at hlr
   have hpos : k + 1 = s.length - r.length := by omega
   refine ⟨.ret, ⟨0, [(4, strV (bs acc)), (5, int64 ((s.length - r.length : Nat) : Int)), (6, avb (decide (acc.length ≤ 4096)))], bM acc⟩, ?_, .inr ⟨by simp, .inr (.inr ⟨rfl, acc, r, _, zrt acc r, rfl⟩)⟩⟩
   rw [← hpos]
   clear hpos hlr hd hk hdr hat
   unfold bV bM
   by_cases h0 : acc.length = 0
   ·have : acc = [] := List.eq_nil_of_length_eq_zero h0
    subst this
    have hso : strOfV [] nilS = some .empty := rfl
    have he : bs [] = ByteArray.empty := rfl
    have hn : ([] : List UInt8).length = 0 := rfl
    rw [if_pos hn, if_pos hn, he, hn]
    generalize k + 1 = k1 at *
    generalize s.length = sl at *
    generalize bs s = S at *
    simp -implicitDefEqProofs [x518L1, hsz, hlt, hget, e1, hso]
   ·have hso : strOfV [.flat (rowB acc) false] (.osl 0 0 1 acc.length none) = some (bs acc) := zq2 acc _ rfl
    have hdec : decide ((acc.length : Int) ≤ 4096) = decide (acc.length ≤ 4096) := by
     congr 1
     apply propext
     omega
    rw [if_neg h0, if_neg h0]
    generalize k + 1 = k1 at *
    generalize s.length = sl at *
    generalize bs s = S at *
    generalize rowB acc = RA at *
    generalize bs acc = A at *
    generalize acc.length = n at *
    simp -implicitDefEqProofs [x518L1, hsz, hlt, hget, e1, hso]
    try omega
  have g34 : ¬ (x.toNat : Int) = 34 := g 34 h34
  have g34' : ¬ x.toNat = 34 := by omega
  by_cases h92 : x = 92
  ·subst h92
   cases r with
   | nil =>
    have hend := zc8 hdr
    have heq2 : k + 1 = s.length := by omega
    have heq3 : ((k + 1 : Nat) : Int) = (s.length : Int) := by omega
    refine ⟨.ret, ⟨0, [(4, strV .empty), (5, int64 (k + 1 : Nat)), (6, avb false)], bM acc⟩, ?_, .inr ⟨by simp, .inr (.inl ⟨rfl, zrs acc rfl, _, _, rfl⟩)⟩⟩
    clear hd hk hdr hat hend
    unfold bV bM
    by_cases h0 : acc.length = 0
    ·rw [if_pos h0, if_pos h0]
     generalize k + 1 = k1 at *
     generalize s.length = sl at *
     generalize bs s = S at *
     simp -implicitDefEqProofs [x518L1, hsz, hlt, hget, e1, heq2, heq3]
    ·rw [if_neg h0, if_neg h0]
     generalize k + 1 = k1 at *
     generalize s.length = sl at *
     generalize bs s = S at *
     simp -implicitDefEqProofs [x518L1, hsz, hlt, hget, e1, heq2, heq3]
   | cons y q =>
    obtain ⟨hat2, hlt2, hdr2⟩ := zc7 hdr
    have hget2 : ∀ hi : k + 1 < (bs s).size, (bs s)[k + 1]'hi = y := fun hi => bs_at hat2 hi
    have hne : ¬ k + 1 = s.length := by omega
    have hne' : ¬ ((k + 1 : Nat) : Int) = (s.length : Int) := by omega
    have e2 : IntKind.wrap .i64 (((k + 1 : Nat) : Int) + 1) = ((k + 2 : Nat) : Int) := by rw [wrapI64 (by omega) (by omega)]; omega
    have hdr2 : s.drop (k + 2) = q := hdr2
    by_cases hy34 : y = 34
    ·subst hy34
     have hstp := zrz acc (d := 34) (e := 34) q rfl
     have hr2 : rowB acc ++ [.val (.int .u8 34)] = rowB (acc ++ [34]) := zod acc 34
     have hl2 : (acc ++ [(34 : UInt8)]).length = acc.length + 1 := by simp
     by_cases h0 : acc.length = 0
     ·have : acc = [] := List.eq_nil_of_length_eq_zero h0
      subst this
      refine ⟨.normal, ⟨0, [(0, strV (bs s)), (1, int64 (k + 2 : Nat)), (7, .osl 1 0 1 1 none)], [.flat [.val (.int .u8 34)] false, .flat [.val (.int .u8 34)] false]⟩, ?_, .inl ⟨rfl, m - 2, by omega, k + 2, [34], by omega, by simp, by rw [hdr2]; exact hstp.symm, by unfold bV bM; simp -implicitDefEqProofs [rowB]⟩⟩
      clear hd hk hdr hdr2 hat hat2 hr2 hl2 hstp g
      unfold bV bM
      generalize k + 2 = k2 at *
      generalize k + 1 = k1 at *
      generalize s.length = sl at *
      generalize bs s = S at *
      simp -implicitDefEqProofs [x518L1, hsz, hlt, hlt2, hne, hne', hget, hget2, e1, e2, exAppendX, exAppend, elems]
     ·refine ⟨.normal, ⟨0, [(0, strV (bs s)), (1, int64 (k + 2 : Nat)), (7, .osl 0 0 1 (acc.length + 1) none)], [.flat (rowB (acc ++ [34])) false, .flat [.val (.int .u8 34)] false]⟩, ?_, .inl ⟨rfl, m - 2, by omega, k + 2, acc ++ [34], by omega, by omega, by rw [hdr2]; exact hstp.symm, ?_⟩⟩
      ·clear hd hk hdr hdr2 hat hat2 hl2 hstp g hln
       unfold bV bM
       rw [if_neg h0, if_neg h0]
       generalize k + 2 = k2 at *
       generalize k + 1 = k1 at *
       generalize s.length = sl at *
       generalize bs s = S at *
       generalize rowB (acc ++ [34]) = R2 at *
       generalize rowB acc = RA at *
       generalize acc.length = n at *
       simp -implicitDefEqProofs [x518L1, hsz, hlt, hlt2, hne, hne', hget, hget2, e1, e2, hcut, hle, hr2, exAppendX, exAppend, elems]
      ·unfold bV bM
       rw [hl2, if_neg (by omega), if_neg (by omega)]
       generalize rowB (acc ++ [34]) = R2 at *
       simp -implicitDefEqProofs
    by_cases hy92 : y = 92
    ·subst hy92
     have hstp := zrz acc (d := 92) (e := 92) q rfl
     have hr2 : rowB acc ++ [.val (.int .u8 92)] = rowB (acc ++ [92]) := zod acc 92
     have hl2 : (acc ++ [(92 : UInt8)]).length = acc.length + 1 := by simp
     by_cases h0 : acc.length = 0
     ·have : acc = [] := List.eq_nil_of_length_eq_zero h0
      subst this
      refine ⟨.normal, ⟨0, [(0, strV (bs s)), (1, int64 (k + 2 : Nat)), (7, .osl 1 0 1 1 none)], [.flat [.val (.int .u8 92)] false, .flat [.val (.int .u8 92)] false]⟩, ?_, .inl ⟨rfl, m - 2, by omega, k + 2, [92], by omega, by simp, by rw [hdr2]; exact hstp.symm, by unfold bV bM; simp -implicitDefEqProofs [rowB]⟩⟩
      clear hd hk hdr hdr2 hat hat2 hr2 hl2 hstp g
      unfold bV bM
      generalize k + 2 = k2 at *
      generalize k + 1 = k1 at *
      generalize s.length = sl at *
      generalize bs s = S at *
      simp -implicitDefEqProofs [x518L1, hsz, hlt, hlt2, hne, hne', hget, hget2, e1, e2, exAppendX, exAppend, elems]
     ·refine ⟨.normal, ⟨0, [(0, strV (bs s)), (1, int64 (k + 2 : Nat)), (7, .osl 0 0 1 (acc.length + 1) none)], [.flat (rowB (acc ++ [92])) false, .flat [.val (.int .u8 92)] false]⟩, ?_, .inl ⟨rfl, m - 2, by omega, k + 2, acc ++ [92], by omega, by omega, by rw [hdr2]; exact hstp.symm, ?_⟩⟩
      ·clear hd hk hdr hdr2 hat hat2 hl2 hstp g hln
       unfold bV bM
       rw [if_neg h0, if_neg h0]
       generalize k + 2 = k2 at *
       generalize k + 1 = k1 at *
       generalize s.length = sl at *
       generalize bs s = S at *
       generalize rowB (acc ++ [92]) = R2 at *
       generalize rowB acc = RA at *
       generalize acc.length = n at *
       simp -implicitDefEqProofs [x518L1, hsz, hlt, hlt2, hne, hne', hget, hget2, e1, e2, hcut, hle, hr2, exAppendX, exAppend, elems]
      ·unfold bV bM
       rw [hl2, if_neg (by omega), if_neg (by omega)]
       generalize rowB (acc ++ [92]) = R2 at *
       simp -implicitDefEqProofs
    by_cases hy110 : y = 110
    ·subst hy110
     have hstp := zrz acc (d := 110) (e := 10) q rfl
     have hr2 : rowB acc ++ [.val (.int .u8 10)] = rowB (acc ++ [10]) := zod acc 10
     have hl2 : (acc ++ [(10 : UInt8)]).length = acc.length + 1 := by simp
     by_cases h0 : acc.length = 0
     ·have : acc = [] := List.eq_nil_of_length_eq_zero h0
      subst this
      refine ⟨.normal, ⟨0, [(0, strV (bs s)), (1, int64 (k + 2 : Nat)), (7, .osl 1 0 1 1 none)], [.flat [.val (.int .u8 10)] false, .flat [.val (.int .u8 10)] false]⟩, ?_, .inl ⟨rfl, m - 2, by omega, k + 2, [10], by omega, by simp, by rw [hdr2]; exact hstp.symm, by unfold bV bM; simp -implicitDefEqProofs [rowB]⟩⟩
      clear hd hk hdr hdr2 hat hat2 hr2 hl2 hstp g
      unfold bV bM
      generalize k + 2 = k2 at *
      generalize k + 1 = k1 at *
      generalize s.length = sl at *
      generalize bs s = S at *
      simp -implicitDefEqProofs [x518L1, hsz, hlt, hlt2, hne, hne', hget, hget2, e1, e2, exAppendX, exAppend, elems]
     ·refine ⟨.normal, ⟨0, [(0, strV (bs s)), (1, int64 (k + 2 : Nat)), (7, .osl 0 0 1 (acc.length + 1) none)], [.flat (rowB (acc ++ [10])) false, .flat [.val (.int .u8 10)] false]⟩, ?_, .inl ⟨rfl, m - 2, by omega, k + 2, acc ++ [10], by omega, by omega, by rw [hdr2]; exact hstp.symm, ?_⟩⟩
      ·clear hd hk hdr hdr2 hat hat2 hl2 hstp g hln
       unfold bV bM
       rw [if_neg h0, if_neg h0]
       generalize k + 2 = k2 at *
       generalize k + 1 = k1 at *
       generalize s.length = sl at *
       generalize bs s = S at *
       generalize rowB (acc ++ [10]) = R2 at *
       generalize rowB acc = RA at *
       generalize acc.length = n at *
       simp -implicitDefEqProofs [x518L1, hsz, hlt, hlt2, hne, hne', hget, hget2, e1, e2, hcut, hle, hr2, exAppendX, exAppend, elems]
      ·unfold bV bM
       rw [hl2, if_neg (by omega), if_neg (by omega)]
       generalize rowB (acc ++ [10]) = R2 at *
       simp -implicitDefEqProofs
    have gy : ∀ a : UInt8, ¬ y = a → ¬ (y.toNat : Int) = (a.toNat : Int) := fun a h e => h (UInt8.toNat_inj.1 (by omega))
    have y1 : ¬ (y.toNat : Int) = 34 := gy 34 hy34
    have y2 : ¬ (y.toNat : Int) = 92 := gy 92 hy92
    have y3 : ¬ (y.toNat : Int) = 110 := gy 110 hy110
    have y1' : ¬ y.toNat = 34 := by omega
    have y2' : ¬ y.toNat = 92 := by omega
    have y3' : ¬ y.toNat = 110 := by omega
    have hno : stepT (92 :: y :: q) = none := by unfold stepT; split <;> simp_all
    refine ⟨.ret, ⟨0, [(4, strV .empty), (5, int64 (k + 1 : Nat)), (6, avb false)], bM acc⟩, ?_, .inr ⟨by simp, .inr (.inl ⟨rfl, zrs acc hno, _, _, rfl⟩)⟩⟩
    clear hd hk hdr hat hdr2 hat2 hno gy
    unfold bV bM
    by_cases h0 : acc.length = 0
    ·rw [if_pos h0, if_pos h0]
     generalize k + 1 = k1 at *
     generalize s.length = sl at *
     generalize bs s = S at *
     simp -implicitDefEqProofs [x518L1, hsz, hlt, hlt2, hget, hget2, e1, hne, hne', y1, y2, y3, y1', y2', y3']
    ·rw [if_neg h0, if_neg h0]
     generalize k + 1 = k1 at *
     generalize s.length = sl at *
     generalize bs s = S at *
     simp -implicitDefEqProofs [x518L1, hsz, hlt, hlt2, hget, hget2, e1, hne, hne', y1, y2, y3, y1', y2', y3']
  ·have g92 : ¬ (x.toNat : Int) = 92 := g 92 h92
   have g92' : ¬ x.toNat = 92 := by omega
   have hp : isPlain x = true := by
    unfold isPlain
    simp [g34', g92', g10']
   have hr2 : rowB acc ++ [.val (.int .u8 x.toNat)] = rowB (acc ++ [x]) := zod acc x
   have hl2 : (acc ++ [x]).length = acc.length + 1 := by simp
   by_cases h0 : acc.length = 0
   ·have : acc = [] := List.eq_nil_of_length_eq_zero h0
    subst this
    refine ⟨.normal, ⟨0, [(0, strV (bs s)), (1, int64 (k + 1 : Nat)), (7, .osl 1 0 1 1 none)], [.flat [.val (.int .u8 x.toNat)] false, .flat [.val (.int .u8 x.toNat)] false]⟩, ?_, .inl ⟨rfl, m - 1, by omega, k + 1, [x], by omega, by simp, by rw [hdr]; exact (zrk [] hp r).symm, by unfold bV bM; simp -implicitDefEqProofs [rowB]⟩⟩
    clear hd hk hdr hat hr2 hl2 hp h10 h34 h92 g
    unfold bV bM
    generalize k + 1 = k1 at *
    generalize s.length = sl at *
    generalize bs s = S at *
    simp -implicitDefEqProofs [x518L1, hsz, hlt, hget, e1, g10, g10', g34, g34', g92, g92', exAppendX, exAppend, elems]
   ·refine ⟨.normal, ⟨0, [(0, strV (bs s)), (1, int64 (k + 1 : Nat)), (7, .osl 0 0 1 (acc.length + 1) none)], [.flat (rowB (acc ++ [x])) false, .flat [.val (.int .u8 x.toNat)] false]⟩, ?_, .inl ⟨rfl, m - 1, by omega, k + 1, acc ++ [x], by omega, by omega, by rw [hdr]; exact (zrk acc hp r).symm, ?_⟩⟩
    ·clear hd hk hdr hat hl2 hp h10 h34 h92 g hln
     unfold bV bM
     rw [if_neg h0, if_neg h0]
     generalize k + 1 = k1 at *
     generalize s.length = sl at *
     generalize bs s = S at *
     generalize rowB (acc ++ [x]) = R2 at *
     generalize rowB acc = RA at *
     generalize acc.length = n at *
     simp -implicitDefEqProofs [x518L1, hsz, hlt, hget, e1, g10, g10', g34, g34', g92, g92', hcut, hle, hr2, exAppendX, exAppend, elems]
    ·unfold bV bM
     rw [hl2, if_neg (by omega), if_neg (by omega)]
     generalize rowB (acc ++ [x]) = R2 at *
     simp -implicitDefEqProofs
end
end Go.EX


set_option linter.unusedVariables false
set_option linter.unusedSimpArgs false
namespace Go.EX
open Go.Lib
section
variable {code : Nat → Option XFun} {ext : Calls'}
theorem zoq (c : RefA code ext) (s : List UInt8) (hs : s.length ≤ 1000000) (i : Nat) (hi : i ≤ s.length) :
  (∀ t q, textL [] (s.drop i) = some (t, q) → callW code ext 518 [strV (bs s), int64 i] [] = some (.tup [strV (bs t), int64 ((s.length - q.length : Nat) : Int), avb (decide (t.length ≤ 4096))], [])) ∧
  (textL [] (s.drop i) = none → ∃ k : Int, callW code ext 518 [strV (bs s), int64 i] [] = some (.tup [strV .empty, int64 k, avb false], [])) := by
 obtain ⟨e, s', l1, _, hor⟩ := zop (ext := ext) c s hs i hi
 rw [zbi code ext c.c518]
 rcases hor with ⟨rfl, h, k, E, M, rfl⟩ | ⟨rfl, h, k, M, rfl⟩ | ⟨rfl, t, q, M, h, rfl⟩
 ·refine ⟨fun t q ht => (by rw [h] at ht; cases ht), fun _ => ⟨k, ?_⟩⟩
  unfold x518
  clear h
  generalize x518L1 = LL at *
  generalize bs s = S at *
  by_cases hM : M = []
  ·subst hM
   simp -implicitDefEqProofs [l1]
  ·simp -implicitDefEqProofs [l1, hM]
 ·refine ⟨fun t q ht => (by rw [h] at ht; cases ht), fun _ => ⟨k, ?_⟩⟩
  unfold x518
  clear h
  generalize x518L1 = LL at *
  generalize bs s = S at *
  by_cases hM : M = []
  ·subst hM
   simp -implicitDefEqProofs [l1]
  ·simp -implicitDefEqProofs [l1, hM]
 ·refine ⟨fun t' q' ht => ?_, fun hn => (by rw [h] at hn; cases hn)⟩
  rw [h] at ht
  cases ht
  unfold x518
  clear h
  generalize x518L1 = LL at *
  generalize decide (t.length ≤ 4096) = D at *
  generalize s.length - q.length = pos at *
  generalize bs t = T at *
  generalize bs s = S at *
  simp -implicitDefEqProofs [l1]
set_option maxHeartbeats 2000000 in
theorem zpe (c : RefA code ext) (s : List UInt8) (hs : s.length ≤ 1000000) (i : Nat) (x : UInt8) (r : List UInt8) (hd : s.drop i = x :: r) :
  (∀ k t N q, wordOf (x :: r) = some (k, t, N, q) → callW code ext 519 [strV (bs s), int64 i] [] = some (.tup [.agg [.imm (.val (.int .u8 (k : Nat))), strV (bs t), int64 N, int64 0], int64 ((s.length - q.length : Nat) : Int), avb true], [])) ∧
  (wordOf (x :: r) = none → ∃ (k : Nat) (T : ByteArray) (N e : Int), callW code ext 519 [strV (bs s), int64 i] [] = some (.tup [.agg [.imm (.val (.int .u8 (k : Nat))), strV T, int64 N, int64 0], int64 e, avb false], [])) := by
 obtain ⟨hat, hlt, hdr⟩ := zc7 hd
 have hsz := za9 s
 have hget : ∀ hi : i < (bs s).size, (bs s)[i]'hi = x := fun hi => bs_at hat hi
 have hdg := zm1 (ext := ext) c.c513 x
 have hlt5 := zn5 (ext := ext) c.c514 x
 have hrun := zon (ext := ext) c s hs i (by omega)
 have e1 : IntKind.wrap .i64 ((i : Int) + 1) = ((i + 1 : Nat) : Int) := by rw [wrapI64 (by omega) (by omega)]; omega
 have hempty : bs [] = ByteArray.empty := rfl
 rw [zsz]
 have hlen := congrArg List.length hd
 rw [List.length_drop] at hlen
 have hspl := congrArg List.length (zr8 isWord (x :: r))
 rw [List.length_append] at hspl
 have hpos : i + ((x :: r).takeWhile isWord).length = s.length - ((x :: r).dropWhile isWord).length := by omega
 rw [hd] at hrun
 have hsl : (bs s).extract i (i + ((x :: r).takeWhile isWord).length) = bs ((x :: r).takeWhile isWord) := by
  rw [za8, hd, show i + ((x :: r).takeWhile isWord).length - i = ((x :: r).takeWhile isWord).length by omega]
  congr 1
  conv => lhs; rw [← zr8 isWord (x :: r)]
  rw [List.take_left']
  simp
 have b1 : (i : Int) ≤ ((i + ((x :: r).takeWhile isWord).length : Nat) : Int) := by omega
 have b2 : ((i + ((x :: r).takeWhile isWord).length : Nat) : Int) ≤ (s.length : Int) := by omega
 have b3 : (0 : Int) ≤ (i : Int) := by omega
 by_cases h34 : x.toNat = 34
 ·have h34' : (x.toNat : Int) = 34 := by omega
  obtain ⟨t1, t2⟩ := zoq (ext := ext) c s hs (i + 1) (by omega)
  rw [hdr] at t1 t2
  rw [if_pos h34]
  cases ht : textL [] r with
  | none =>
   refine ⟨fun k t N q h => (by cases h), fun _ => ?_⟩
   obtain ⟨k, hk⟩ := t2 ht
   refine ⟨3, .empty, 0, k, ?_⟩
   rw [zbi code ext c.c519]
   clear t1 t2 ht hrun hd hat hdr hpos hspl hlen hsl b1 b2
   generalize i + 1 = i1 at *
   generalize s.length = sl at *
   generalize bs s = S at *
   simp -implicitDefEqProofs [x519, hsz, hlt, hget, h34, h34', e1, hk]
  | some p =>
   obtain ⟨t, q⟩ := p
   have hk := t1 t q ht
   dsimp only
   by_cases hl : t.length ≤ 4096
   ·rw [if_pos hl]
    have hdt : decide (t.length ≤ 4096) = true := by simpa using hl
    rw [hdt] at hk
    refine ⟨fun k t' N q' h => ?_, fun h => (by cases h)⟩
    cases h
    rw [zbi code ext c.c519]
    clear t1 t2 ht hrun hd hat hdr hpos hspl hlen hsl b1 b2
    generalize i + 1 = i1 at *
    generalize s.length - q.length = pos at *
    generalize s.length = sl at *
    generalize bs s = S at *
    generalize bs t = T at *
    simp -implicitDefEqProofs [x519, hsz, hlt, hget, h34, h34', e1, hk]
   ·rw [if_neg hl]
    have hdt : decide (t.length ≤ 4096) = false := by simpa using hl
    rw [hdt] at hk
    refine ⟨fun k t' N q' h => (by cases h), fun _ => ⟨3, bs t, 0, ((s.length - q.length : Nat) : Int), ?_⟩⟩
    rw [zbi code ext c.c519]
    clear t1 t2 ht hrun hd hat hdr hpos hspl hlen hsl b1 b2 hl hdt
    generalize i + 1 = i1 at *
    generalize s.length - q.length = pos at *
    generalize s.length = sl at *
    generalize bs s = S at *
    generalize bs t = T at *
    simp -implicitDefEqProofs [x519, hsz, hlt, hget, h34, h34', e1, hk]
 rw [if_neg h34]
 have h34' : ¬ (x.toNat : Int) = 34 := by omega
 by_cases hl : isLetter x = true
 ·have hnd : isDigit x = false := by
   unfold isLetter at hl
   unfold isDigit
   simp only [Bool.or_eq_true, Bool.and_eq_true, decide_eq_true_eq] at hl
   simp only [Bool.and_eq_false_iff, decide_eq_false_iff_not]
   omega
  rw [hl] at hlt5
  rw [hnd] at hdg
  rw [if_pos hl]
  have e2 : IntKind.wrap .i64 (((i + ((x :: r).takeWhile isWord).length : Nat) : Int) - (i : Int)) = (((x :: r).takeWhile isWord).length : Int) := by rw [wrapI64 (by omega) (by omega)]; omega
  have b4 : ((i + ((x :: r).takeWhile isWord).length : Nat) : Int).toNat = i + ((x :: r).takeWhile isWord).length := by omega
  by_cases hle : ((x :: r).takeWhile isWord).length ≤ 4096
  ·rw [if_pos hle]
   have hle' : (((x :: r).takeWhile isWord).length : Int) ≤ 4096 := by omega
   refine ⟨fun k t' N q' h => ?_, fun h => (by cases h)⟩
   cases h
   rw [zbi code ext c.c519, ← hpos]
   clear hd hat hdr hpos hspl hlen hl hnd
   generalize bs ((x :: r).takeWhile isWord) = W at *
   generalize hsum : i + ((x :: r).takeWhile isWord).length = j at *
   generalize ((x :: r).takeWhile isWord).length = wl at *
   generalize s.length = sl at *
   generalize bs s = S at *
   clear hsum
   simp -implicitDefEqProofs [x519, hsz, hlt, hget, h34, h34', hdg, hlt5, hrun, hsl, bounds, b1, b2, b3, b4, e2, hle, hle']
  ·rw [if_neg hle]
   have hle' : ¬ (((x :: r).takeWhile isWord).length : Int) ≤ 4096 := by omega
   refine ⟨fun k t' N q' h => (by cases h), fun _ => ⟨1, bs ((x :: r).takeWhile isWord), 0, ((i + ((x :: r).takeWhile isWord).length : Nat) : Int), ?_⟩⟩
   rw [zbi code ext c.c519]
   clear hd hat hdr hpos hspl hlen hl hnd
   generalize bs ((x :: r).takeWhile isWord) = W at *
   generalize hsum : i + ((x :: r).takeWhile isWord).length = j at *
   generalize ((x :: r).takeWhile isWord).length = wl at *
   generalize s.length = sl at *
   generalize bs s = S at *
   clear hsum
   simp -implicitDefEqProofs [x519, hsz, hlt, hget, h34, h34', hdg, hlt5, hrun, hsl, bounds, b1, b2, b3, b4, e2, hle, hle']
 rw [if_neg hl]
 have hl0 : isLetter x = false := by simpa using hl
 rw [hl0] at hlt5
 by_cases hdd : isDigit x = true
 ·rw [if_pos hdd]
  have hw : isWord x = true := (zcx hdd).2.2.2
  have htw : (x :: r).takeWhile isWord = x :: r.takeWhile isWord := by simp [List.takeWhile, hw]
  obtain ⟨X, hX, hXn⟩ := zn7 (ext := ext) c hdd (r.takeWhile isWord) (by rw [← htw]; omega)
  rw [← htw] at hX hXn
  rw [hdd] at hdg
  cases hok : numOk ((x :: r).takeWhile isWord) with
  | true =>
   rw [if_pos rfl]
   rw [hok] at hX
   have := hXn hok
   subst this
   refine ⟨fun k t' N q' h => ?_, fun h => (by cases h)⟩
   cases h
   rw [zbi code ext c.c519, ← hpos, hempty]
   clear hd hat hdr hpos hspl hlen hl hw htw hXn hok
   generalize numN ((x :: r).takeWhile isWord) = NN at *
   generalize bs ((x :: r).takeWhile isWord) = W at *
   generalize hsum : i + ((x :: r).takeWhile isWord).length = j at *
   generalize ((x :: r).takeWhile isWord).length = wl at *
   generalize s.length = sl at *
   generalize bs s = S at *
   clear hsum
   simp -implicitDefEqProofs [x519, hsz, hlt, hget, h34, h34', hdg, hlt5, hrun, hsl, bounds, b1, b2, b3, hX]
  | false =>
   rw [if_neg (by simp)]
   rw [hok] at hX
   refine ⟨fun k t' N q' h => (by cases h), fun _ => ⟨2, .empty, X, ((i + ((x :: r).takeWhile isWord).length : Nat) : Int), ?_⟩⟩
   rw [zbi code ext c.c519]
   clear hd hat hdr hpos hspl hlen hl hw htw hXn hok
   generalize bs ((x :: r).takeWhile isWord) = W at *
   generalize hsum : i + ((x :: r).takeWhile isWord).length = j at *
   generalize ((x :: r).takeWhile isWord).length = wl at *
   generalize s.length = sl at *
   generalize bs s = S at *
   clear hsum
   simp -implicitDefEqProofs [x519, hsz, hlt, hget, h34, h34', hdg, hlt5, hrun, hsl, bounds, b1, b2, b3, hX]
 rw [if_neg hdd]
 have hdd0 : isDigit x = false := by simpa using hdd
 rw [hdd0] at hdg
 have hsg := zoo (ext := ext) c s i x r hs hd
 cases hso : signOf (x :: r) with
 | none =>
  rw [hso, Option.getD_none, hempty] at hsg
  have e0 : IntKind.wrap .i64 (i : Int) = (i : Int) := wrapI64 (by omega) (by omega)
  refine ⟨fun k t' N q' h => (by cases h), fun _ => ⟨4, .empty, 0, i, ?_⟩⟩
  rw [zbi code ext c.c519]
  clear hd hat hdr hpos hspl hlen hl hso hrun hsl b1 b2
  generalize s.length = sl at *
  generalize bs s = S at *
  simp -implicitDefEqProofs [x519, hsz, hlt, hget, h34, h34', hdg, hlt5, hsg, e0]
 | some sg =>
  rw [hso, Option.getD_some] at hsg
  have hmem : sg ∈ signs5 := by unfold signOf at hso; exact List.mem_of_find?_eq_some hso
  have hle : sg.length ≤ (x :: r).length := by
   unfold signOf at hso
   exact zmm (List.find?_some (p := fun s => hasPre s (x :: r)) hso)
  have hne : ¬ bs sg = ByteArray.empty := by
   intro h
   have : bs sg = bs [] := h
   rw [bs_inj] at this
   subst this
   exact absurd hmem (by decide)
  have hsz2 := za9 sg
  have e3 : IntKind.wrap .i64 ((i : Int) + (sg.length : Int)) = ((i + sg.length : Nat) : Int) := by rw [wrapI64 (by omega) (by omega)]; omega
  refine ⟨fun k t' N q' h => ?_, fun h => (by cases h)⟩
  dsimp only at h
  simp only [Option.some.injEq, Prod.mk.injEq] at h
  obtain ⟨rfl, rfl, rfl, rfl⟩ := h
  have hpos2 : s.length - ((x :: r).drop sg.length).length = i + sg.length := by rw [List.length_drop]; omega
  rw [zbi code ext c.c519, hpos2]
  clear hd hat hdr hpos hspl hlen hl hso hrun hsl b1 b2 hmem hle hpos2
  generalize i + sg.length = j at *
  generalize sg.length = gl at *
  generalize bs sg = G at *
  generalize s.length = sl at *
  generalize bs s = S at *
  simp -implicitDefEqProofs [x519, hsz, hlt, hget, h34, h34', hdg, hlt5, hsg, hne, hsz2, e3]
end
end Go.EX

