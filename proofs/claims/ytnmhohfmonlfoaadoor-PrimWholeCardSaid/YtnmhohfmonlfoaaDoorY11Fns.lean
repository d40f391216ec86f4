import Derived.Test.YtnmhohfmonlfoaaDoorRows
import Derived.Test.YtnmhohfmonlfoaaDoorK4
import Derived.Test.YtnmhohfmonlfoaaDoorC4
import Derived.Test.YtnmhohfmonlfoaaDoorC11
import Derived.Test.YtnmhohfmonlfoaaDoorCc11
namespace Go.Proofs.YtnmhohfmonlfoaaDoor
open Go.EX
def gids : List Nat := [100000, 100001, 703, 485, 483, 480, 627, 491, 489, 633, 636, 631, 630, 487, 646, 649, 632, 637, 355, 640, 361, 656, 745, 654, 647, 652, 657, 352, 643, 749, 641, 642, 206, 639, 339, 651, 755, 655, 653, 650, 351, 743, 740, 742, 741, 759, 578, 219, 207, 212, 580, 210, 588, 217, 208, 214, 211, 215, 338, 357, 218, 216, 579, 213, 648, 209, 581, 380, 582, 589, 246, 244, 670, 583, 584, 585, 586, 587, 673, 785, 786, 245, 669, 674, 708, 709, 100086, 719, 718, 713, 714, 716, 732, 712, 715, 733, 734, 735, 100098, 100099, 100100, 100101, 100102, 100103, 100104, 100105, 100106, 100107, 100108, 100109, 100110, 100111, 100112, 100113, 100114, 100115, 100116, 100117, 100118, 100119, 704]
def num (f : FuncId) : Nat := (gids[f]?).getD (100000 + f)
theorem ok3 : FunOK Tryd.prog num 3 x485 := .of Tryd.func3 (by kernel_rfl) (by kernel_rfl) (by kernel_rfl) (by kernel_rfl) (by kernel_rfl)
theorem ok6 : FunOK Tryd.prog num 6 x627 := .of Tryd.func6 (by kernel_rfl) (by kernel_rfl) (by kernel_rfl) (by kernel_rfl) (by kernel_rfl)
theorem ok7 : FunOK Tryd.prog num 7 x491 := .of Tryd.func7 (by kernel_rfl) (by kernel_rfl) (by kernel_rfl) (by kernel_rfl) (by kernel_rfl)
theorem ok8 : FunOK Tryd.prog num 8 x489 := .of Tryd.func8 (by kernel_rfl) (by kernel_rfl) (by kernel_rfl) (by kernel_rfl) (by kernel_rfl)
theorem ok9 : FunOK Tryd.prog num 9 x633 := .of Tryd.func9 (by kernel_rfl) (by kernel_rfl) (by kernel_rfl) (by kernel_rfl) (by kernel_rfl)
theorem ok10 : FunOK Tryd.prog num 10 x636 := .of Tryd.func10 (by kernel_rfl) (by kernel_rfl) (by kernel_rfl) (by kernel_rfl) (by kernel_rfl)
theorem ok11 : FunOK Tryd.prog num 11 x631 := .of Tryd.func11 (by kernel_rfl) (by kernel_rfl) (by kernel_rfl) (by kernel_rfl) (by kernel_rfl)
theorem ok12 : FunOK Tryd.prog num 12 x630 := .of Tryd.func12 (by kernel_rfl) (by kernel_rfl) (by kernel_rfl) (by kernel_rfl) (by kernel_rfl)
theorem ok14 : FunOK Tryd.prog num 14 x646 := .of Tryd.func14 (by kernel_rfl) (by kernel_rfl) (by kernel_rfl) (by kernel_rfl) (by kernel_rfl)
theorem ok16 : FunOK Tryd.prog num 16 x632 := .of Tryd.func16 (by kernel_rfl) (by kernel_rfl) (by kernel_rfl) (by kernel_rfl) (by kernel_rfl)
theorem ok19 : FunOK Tryd.prog num 19 x640 := .of Tryd.func19 (by kernel_rfl) (by kernel_rfl) (by kernel_rfl) (by kernel_rfl) (by kernel_rfl)
theorem ok21 : FunOK Tryd.prog num 21 x656 := .of Tryd.func21 (by kernel_rfl) (by kernel_rfl) (by kernel_rfl) (by kernel_rfl) (by kernel_rfl)
theorem ok22 : FunOK Tryd.prog num 22 x745 := .of Tryd.func22 (by kernel_rfl) (by kernel_rfl) (by kernel_rfl) (by kernel_rfl) (by kernel_rfl)
theorem ok23 : FunOK Tryd.prog num 23 x654 := .of Tryd.func23 (by kernel_rfl) (by kernel_rfl) (by kernel_rfl) (by kernel_rfl) (by kernel_rfl)
theorem ok24 : FunOK Tryd.prog num 24 x647 := .of Tryd.func24 (by kernel_rfl) (by kernel_rfl) (by kernel_rfl) (by kernel_rfl) (by kernel_rfl)
theorem ok25 : FunOK Tryd.prog num 25 x652 := .of Tryd.func25 (by kernel_rfl) (by kernel_rfl) (by kernel_rfl) (by kernel_rfl) (by kernel_rfl)
theorem ok28 : FunOK Tryd.prog num 28 x643 := .of Tryd.func28 (by kernel_rfl) (by kernel_rfl) (by kernel_rfl) (by kernel_rfl) (by kernel_rfl)
theorem ok29 : FunOK Tryd.prog num 29 x749 := .of Tryd.func29 (by kernel_rfl) (by kernel_rfl) (by kernel_rfl) (by kernel_rfl) (by kernel_rfl)
theorem ok30 : FunOK Tryd.prog num 30 x641 := .of Tryd.func30 (by kernel_rfl) (by kernel_rfl) (by kernel_rfl) (by kernel_rfl) (by kernel_rfl)
theorem ok31 : FunOK Tryd.prog num 31 x642 := .of Tryd.func31 (by kernel_rfl) (by kernel_rfl) (by kernel_rfl) (by kernel_rfl) (by kernel_rfl)
theorem ok32 : FunOK Tryd.prog num 32 x206 := .of Tryd.func32 (by kernel_rfl) (by kernel_rfl) (by kernel_rfl) (by kernel_rfl) (by kernel_rfl)
theorem ok33 : FunOK Tryd.prog num 33 x639 := .of Tryd.func33 (by kernel_rfl) (by kernel_rfl) (by kernel_rfl) (by kernel_rfl) (by kernel_rfl)
theorem ok35 : FunOK Tryd.prog num 35 x651 := .of Tryd.func35 (by kernel_rfl) (by kernel_rfl) (by kernel_rfl) (by kernel_rfl) (by kernel_rfl)
theorem ok36 : FunOK Tryd.prog num 36 x755 := .of Tryd.func36 (by kernel_rfl) (by kernel_rfl) (by kernel_rfl) (by kernel_rfl) (by kernel_rfl)
theorem ok37 : FunOK Tryd.prog num 37 x655 := .of Tryd.func37 (by kernel_rfl) (by kernel_rfl) (by kernel_rfl) (by kernel_rfl) (by kernel_rfl)
theorem ok38 : FunOK Tryd.prog num 38 x653 := .of Tryd.func38 (by kernel_rfl) (by kernel_rfl) (by kernel_rfl) (by kernel_rfl) (by kernel_rfl)
theorem ok39 : FunOK Tryd.prog num 39 x650 := .of Tryd.func39 (by kernel_rfl) (by kernel_rfl) (by kernel_rfl) (by kernel_rfl) (by kernel_rfl)
theorem ok41 : FunOK Tryd.prog num 41 x743 := .of Tryd.func41 (by kernel_rfl) (by kernel_rfl) (by kernel_rfl) (by kernel_rfl) (by kernel_rfl)
theorem ok42 : FunOK Tryd.prog num 42 x740 := .of Tryd.func42 (by kernel_rfl) (by kernel_rfl) (by kernel_rfl) (by kernel_rfl) (by kernel_rfl)
theorem ok43 : FunOK Tryd.prog num 43 x742 := .of Tryd.func43 (by kernel_rfl) (by kernel_rfl) (by kernel_rfl) (by kernel_rfl) (by kernel_rfl)
theorem ok44 : FunOK Tryd.prog num 44 x741 := .of Tryd.func44 (by kernel_rfl) (by kernel_rfl) (by kernel_rfl) (by kernel_rfl) (by kernel_rfl)
theorem ok45 : FunOK Tryd.prog num 45 x759 := .of Tryd.func45 (by kernel_rfl) (by kernel_rfl) (by kernel_rfl) (by kernel_rfl) (by kernel_rfl)
theorem ok46 : FunOK Tryd.prog num 46 x578 := .of Tryd.func46 (by kernel_rfl) (by kernel_rfl) (by kernel_rfl) (by kernel_rfl) (by kernel_rfl)
theorem ok47 : FunOK Tryd.prog num 47 x219 := .of Tryd.func47 (by kernel_rfl) (by kernel_rfl) (by kernel_rfl) (by kernel_rfl) (by kernel_rfl)
theorem ok48 : FunOK Tryd.prog num 48 x207 := .of Tryd.func48 (by kernel_rfl) (by kernel_rfl) (by kernel_rfl) (by kernel_rfl) (by kernel_rfl)
theorem ok49 : FunOK Tryd.prog num 49 x212 := .of Tryd.func49 (by kernel_rfl) (by kernel_rfl) (by kernel_rfl) (by kernel_rfl) (by kernel_rfl)
theorem ok50 : FunOK Tryd.prog num 50 x580 := .of Tryd.func50 (by kernel_rfl) (by kernel_rfl) (by kernel_rfl) (by kernel_rfl) (by kernel_rfl)
theorem ok51 : FunOK Tryd.prog num 51 x210 := .of Tryd.func51 (by kernel_rfl) (by kernel_rfl) (by kernel_rfl) (by kernel_rfl) (by kernel_rfl)
theorem ok52 : FunOK Tryd.prog num 52 x588 := .of Tryd.func52 (by kernel_rfl) (by kernel_rfl) (by kernel_rfl) (by kernel_rfl) (by kernel_rfl)
theorem ok53 : FunOK Tryd.prog num 53 x217 := .of Tryd.func53 (by kernel_rfl) (by kernel_rfl) (by kernel_rfl) (by kernel_rfl) (by kernel_rfl)
theorem ok55 : FunOK Tryd.prog num 55 x214 := .of Tryd.func55 (by kernel_rfl) (by kernel_rfl) (by kernel_rfl) (by kernel_rfl) (by kernel_rfl)
theorem ok56 : FunOK Tryd.prog num 56 x211 := .of Tryd.func56 (by kernel_rfl) (by kernel_rfl) (by kernel_rfl) (by kernel_rfl) (by kernel_rfl)
theorem ok57 : FunOK Tryd.prog num 57 x215 := .of Tryd.func57 (by kernel_rfl) (by kernel_rfl) (by kernel_rfl) (by kernel_rfl) (by kernel_rfl)
theorem ok60 : FunOK Tryd.prog num 60 x218 := .of Tryd.func60 (by kernel_rfl) (by kernel_rfl) (by kernel_rfl) (by kernel_rfl) (by kernel_rfl)
theorem ok61 : FunOK Tryd.prog num 61 x216 := .of Tryd.func61 (by kernel_rfl) (by kernel_rfl) (by kernel_rfl) (by kernel_rfl) (by kernel_rfl)
theorem ok62 : FunOK Tryd.prog num 62 x579 := .of Tryd.func62 (by kernel_rfl) (by kernel_rfl) (by kernel_rfl) (by kernel_rfl) (by kernel_rfl)
theorem ok63 : FunOK Tryd.prog num 63 x213 := .of Tryd.func63 (by kernel_rfl) (by kernel_rfl) (by kernel_rfl) (by kernel_rfl) (by kernel_rfl)
theorem ok65 : FunOK Tryd.prog num 65 x209 := .of Tryd.func65 (by kernel_rfl) (by kernel_rfl) (by kernel_rfl) (by kernel_rfl) (by kernel_rfl)
theorem ok66 : FunOK Tryd.prog num 66 x581 := .of Tryd.func66 (by kernel_rfl) (by kernel_rfl) (by kernel_rfl) (by kernel_rfl) (by kernel_rfl)
theorem ok68 : FunOK Tryd.prog num 68 x582 := .of Tryd.func68 (by kernel_rfl) (by kernel_rfl) (by kernel_rfl) (by kernel_rfl) (by kernel_rfl)
theorem ok69 : FunOK Tryd.prog num 69 x589 := .of Tryd.func69 (by kernel_rfl) (by kernel_rfl) (by kernel_rfl) (by kernel_rfl) (by kernel_rfl)
theorem ok73 : FunOK Tryd.prog num 73 x583 := .of Tryd.func73 (by kernel_rfl) (by kernel_rfl) (by kernel_rfl) (by kernel_rfl) (by kernel_rfl)
theorem ok74 : FunOK Tryd.prog num 74 x584 := .of Tryd.func74 (by kernel_rfl) (by kernel_rfl) (by kernel_rfl) (by kernel_rfl) (by kernel_rfl)
theorem ok75 : FunOK Tryd.prog num 75 x585 := .of Tryd.func75 (by kernel_rfl) (by kernel_rfl) (by kernel_rfl) (by kernel_rfl) (by kernel_rfl)
theorem ok76 : FunOK Tryd.prog num 76 x586 := .of Tryd.func76 (by kernel_rfl) (by kernel_rfl) (by kernel_rfl) (by kernel_rfl) (by kernel_rfl)
theorem ok77 : FunOK Tryd.prog num 77 x587 := .of Tryd.func77 (by kernel_rfl) (by kernel_rfl) (by kernel_rfl) (by kernel_rfl) (by kernel_rfl)
abbrev FnAt (f : Nat) : Prop := ∀ xf, code11 (num f) = some xf → FunOK Tryd.prog num f xf
theorem hit {n : Nat} {x : XFun} (e : code11 (num n) = some x) (k : FunOK Tryd.prog num n x) (r : ∀ f, f < n → FnAt f) : ∀ f, f < n + 1 → FnAt f := fun f h xf hx => by
  rcases Nat.lt_or_eq_of_le (Nat.le_of_lt_succ h) with h | rfl
  · exact r f h xf hx
  · rw [e] at hx; cases hx; exact k
theorem nix {n : Nat} (e : code11 (num n) = none) (r : ∀ f, f < n → FnAt f) : ∀ f, f < n + 1 → FnAt f := fun f h xf hx => by
  rcases Nat.lt_or_eq_of_le (Nat.le_of_lt_succ h) with h | rfl
  · exact r f h xf hx
  · rw [e] at hx; cases hx
theorem upto20 : ∀ f, f < 20 → FnAt f :=
  hit (by kernel_rfl) ok19 <|
  nix (by kernel_rfl) <|
  nix (by kernel_rfl) <|
  hit (by kernel_rfl) ok16 <|
  nix (by kernel_rfl) <|
  hit (by kernel_rfl) ok14 <|
  nix (by kernel_rfl) <|
  hit (by kernel_rfl) ok12 <|
  hit (by kernel_rfl) ok11 <|
  hit (by kernel_rfl) ok10 <|
  hit (by kernel_rfl) ok9 <|
  hit (by kernel_rfl) ok8 <|
  hit (by kernel_rfl) ok7 <|
  hit (by kernel_rfl) ok6 <|
  nix (by kernel_rfl) <|
  nix (by kernel_rfl) <|
  hit (by kernel_rfl) ok3 <|
  nix (by kernel_rfl) <|
  nix (by kernel_rfl) <|
  nix (by kernel_rfl) (fun f h => absurd h (Nat.not_lt_zero f))
theorem upto40 : ∀ f, f < 40 → FnAt f :=
  hit (by kernel_rfl) ok39 <|
  hit (by kernel_rfl) ok38 <|
  hit (by kernel_rfl) ok37 <|
  hit (by kernel_rfl) ok36 <|
  hit (by kernel_rfl) ok35 <|
  nix (by kernel_rfl) <|
  hit (by kernel_rfl) ok33 <|
  hit (by kernel_rfl) ok32 <|
  hit (by kernel_rfl) ok31 <|
  hit (by kernel_rfl) ok30 <|
  hit (by kernel_rfl) ok29 <|
  hit (by kernel_rfl) ok28 <|
  nix (by kernel_rfl) <|
  nix (by kernel_rfl) <|
  hit (by kernel_rfl) ok25 <|
  hit (by kernel_rfl) ok24 <|
  hit (by kernel_rfl) ok23 <|
  hit (by kernel_rfl) ok22 <|
  hit (by kernel_rfl) ok21 <|
  nix (by kernel_rfl) upto20
theorem upto60 : ∀ f, f < 60 → FnAt f :=
  nix (by kernel_rfl) <|
  nix (by kernel_rfl) <|
  hit (by kernel_rfl) ok57 <|
  hit (by kernel_rfl) ok56 <|
  hit (by kernel_rfl) ok55 <|
  nix (by kernel_rfl) <|
  hit (by kernel_rfl) ok53 <|
  hit (by kernel_rfl) ok52 <|
  hit (by kernel_rfl) ok51 <|
  hit (by kernel_rfl) ok50 <|
  hit (by kernel_rfl) ok49 <|
  hit (by kernel_rfl) ok48 <|
  hit (by kernel_rfl) ok47 <|
  hit (by kernel_rfl) ok46 <|
  hit (by kernel_rfl) ok45 <|
  hit (by kernel_rfl) ok44 <|
  hit (by kernel_rfl) ok43 <|
  hit (by kernel_rfl) ok42 <|
  hit (by kernel_rfl) ok41 <|
  nix (by kernel_rfl) upto40
theorem upto80 : ∀ f, f < 80 → FnAt f :=
  nix (by kernel_rfl) <|
  nix (by kernel_rfl) <|
  hit (by kernel_rfl) ok77 <|
  hit (by kernel_rfl) ok76 <|
  hit (by kernel_rfl) ok75 <|
  hit (by kernel_rfl) ok74 <|
  hit (by kernel_rfl) ok73 <|
  nix (by kernel_rfl) <|
  nix (by kernel_rfl) <|
  nix (by kernel_rfl) <|
  hit (by kernel_rfl) ok69 <|
  hit (by kernel_rfl) ok68 <|
  nix (by kernel_rfl) <|
  hit (by kernel_rfl) ok66 <|
  hit (by kernel_rfl) ok65 <|
  nix (by kernel_rfl) <|
  hit (by kernel_rfl) ok63 <|
  hit (by kernel_rfl) ok62 <|
  hit (by kernel_rfl) ok61 <|
  hit (by kernel_rfl) ok60 upto60
theorem upto100 : ∀ f, f < 100 → FnAt f :=
  nix (by kernel_rfl) <|
  nix (by kernel_rfl) <|
  nix (by kernel_rfl) <|
  nix (by kernel_rfl) <|
  nix (by kernel_rfl) <|
  nix (by kernel_rfl) <|
  nix (by kernel_rfl) <|
  nix (by kernel_rfl) <|
  nix (by kernel_rfl) <|
  nix (by kernel_rfl) <|
  nix (by kernel_rfl) <|
  nix (by kernel_rfl) <|
  nix (by kernel_rfl) <|
  nix (by kernel_rfl) <|
  nix (by kernel_rfl) <|
  nix (by kernel_rfl) <|
  nix (by kernel_rfl) <|
  nix (by kernel_rfl) <|
  nix (by kernel_rfl) <|
  nix (by kernel_rfl) upto80
theorem upto120 : ∀ f, f < 120 → FnAt f :=
  nix (by kernel_rfl) <|
  nix (by kernel_rfl) <|
  nix (by kernel_rfl) <|
  nix (by kernel_rfl) <|
  nix (by kernel_rfl) <|
  nix (by kernel_rfl) <|
  nix (by kernel_rfl) <|
  nix (by kernel_rfl) <|
  nix (by kernel_rfl) <|
  nix (by kernel_rfl) <|
  nix (by kernel_rfl) <|
  nix (by kernel_rfl) <|
  nix (by kernel_rfl) <|
  nix (by kernel_rfl) <|
  nix (by kernel_rfl) <|
  nix (by kernel_rfl) <|
  nix (by kernel_rfl) <|
  nix (by kernel_rfl) <|
  nix (by kernel_rfl) <|
  nix (by kernel_rfl) upto100
theorem upto121 : ∀ f, f < 121 → FnAt f :=
  nix (by kernel_rfl) upto120
theorem fns (f : FuncId) (xf : XFun) (h : code11 (num f) = some xf) : FunOK Tryd.prog num f xf := by
  by_cases hf : f < 121
  · exact upto121 f hf xf h
  · have hn : num f = 100000 + f := by
      unfold num
      rw [List.getElem?_eq_none (by rw [show gids.length = 121 from by kernel_rfl]; simp only [FuncId] at *; omega)]; rfl
    rw [hn] at h
    unfold code11 at h
    split at h <;> first | (exfalso; simp only [FuncId] at *; omega) | cases h
theorem nz (f : FuncId) : num f ≠ yieldNo := by
  by_cases hf : f < 121
  · exact (by decide +kernel : ∀ f : Fin 121, num f.val ≠ yieldNo) ⟨f, hf⟩
  · have hn : num f = 100000 + f := by
      unfold num
      rw [List.getElem?_eq_none (by rw [show gids.length = 121 from by kernel_rfl]; simp only [FuncId] at *; omega)]; rfl
    rw [hn, yieldNo]
    simp only [FuncId] at *; omega
theorem runs : Runs Tryd.prog (Names.of Tryd.prog num) code11 (fun _ _ _ => none) := ⟨by kernel_rfl, fns, none_ok, nz, code11_yld, fun _ _ _ _ _ _ => Iff.rfl⟩
end Go.Proofs.YtnmhohfmonlfoaaDoor

