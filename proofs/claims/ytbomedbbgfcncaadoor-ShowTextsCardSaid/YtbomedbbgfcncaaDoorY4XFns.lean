import Derived.Test.YtbomedbbgfcncaaDoorRows
import Derived.Test.YtbomedbbgfcncaaDoorK4
import Derived.Test.YtbomedbbgfcncaaDoorCk4
import Derived.Test.YtbomedbbgfcncaaDoorFmt2
import Derived.Test.YtbomedbbgfcncaaDoorC4
import Derived.Test.YtbomedbbgfcncaaDoorC4b
import Derived.Test.YtbomedbbgfcncaaDoorC4p
import Derived.Test.YtbomedbbgfcncaaDoorT17
namespace Go.Proofs.YtbomedbbgfcncaaDoor
open Go.EX Go.Shelf
def gids : List Nat := [100000, 100001, 703, 442, 441, 440, 438, 445, 377, 648, 504, 334, 444, 447, 646, 649, 303, 361, 373, 246, 244, 670, 100, 330, 446, 448, 656, 745, 654, 647, 652, 657, 339, 372, 651, 673, 785, 786, 245, 669, 502, 98, 501, 99, 329, 755, 655, 749, 653, 650, 338, 379, 674, 708, 709, 336, 759, 380, 100058, 719, 718, 713, 714, 716, 732, 712, 715, 733, 734, 735, 100070, 100071, 100072, 100073, 100074, 100075, 100076, 100077, 100078, 100079, 100080, 100081, 100082, 100083, 100084, 100085, 100086, 100087, 100088, 100089, 100090, 100091, 704]
def num (f : FuncId) : Nat := (gids[f]?).getD (100000 + f)
theorem ok3 : FunOK Tryd.prog num 3 x442 := .of Tryd.func3 (by kernel_rfl) (by kernel_rfl) (by kernel_rfl) (by kernel_rfl) (by kernel_rfl)
theorem ok7 : FunOK Tryd.prog num 7 x445 := .of Tryd.func7 (by kernel_rfl) (by kernel_rfl) (by kernel_rfl) (by kernel_rfl) (by kernel_rfl)
theorem ok8 : FunOK Tryd.prog num 8 x377 := .of Tryd.func8 (by kernel_rfl) (by kernel_rfl) (by kernel_rfl) (by kernel_rfl) (by kernel_rfl)
theorem ok9 : FunOK Tryd.prog num 9 x648 := .of Tryd.func9 (by kernel_rfl) (by kernel_rfl) (by kernel_rfl) (by kernel_rfl) (by kernel_rfl)
theorem ok10 : FunOK Tryd.prog num 10 x504 := .of Tryd.func10 (by kernel_rfl) (by kernel_rfl) (by kernel_rfl) (by kernel_rfl) (by kernel_rfl)
theorem ok11 : FunOK Tryd.prog num 11 x334 := .of Tryd.func11 (by kernel_rfl) (by kernel_rfl) (by kernel_rfl) (by kernel_rfl) (by kernel_rfl)
theorem ok16 : FunOK Tryd.prog num 16 x303 := .of Tryd.func16 (by kernel_rfl) (by kernel_rfl) (by kernel_rfl) (by kernel_rfl) (by kernel_rfl)
theorem ok17 : FunOK Tryd.prog num 17 x361 := .of Tryd.func17 (by kernel_rfl) (by kernel_rfl) (by kernel_rfl) (by kernel_rfl) (by kernel_rfl)
theorem ok18 : FunOK Tryd.prog num 18 x373 := .of Tryd.func18 (by kernel_rfl) (by kernel_rfl) (by kernel_rfl) (by kernel_rfl) (by kernel_rfl)
theorem ok19 : FunOK Tryd.prog num 19 x246 := .of Tryd.func19 (by kernel_rfl) (by kernel_rfl) (by kernel_rfl) (by kernel_rfl) (by kernel_rfl)
theorem ok20 : FunOK Tryd.prog num 20 x244 := .of Tryd.func20 (by kernel_rfl) (by kernel_rfl) (by kernel_rfl) (by kernel_rfl) (by kernel_rfl)
theorem ok22 : FunOK Tryd.prog num 22 x100 := .of Tryd.func22 (by kernel_rfl) (by kernel_rfl) (by kernel_rfl) (by kernel_rfl) (by kernel_rfl)
theorem ok23 : FunOK Tryd.prog num 23 x330 := .of Tryd.func23 (by kernel_rfl) (by kernel_rfl) (by kernel_rfl) (by kernel_rfl) (by kernel_rfl)
theorem ok32 : FunOK Tryd.prog num 32 x339 := .of Tryd.func32 (by kernel_rfl) (by kernel_rfl) (by kernel_rfl) (by kernel_rfl) (by kernel_rfl)
theorem ok33 : FunOK Tryd.prog num 33 x372 := .of Tryd.func33 (by kernel_rfl) (by kernel_rfl) (by kernel_rfl) (by kernel_rfl) (by kernel_rfl)
theorem ok34 : FunOK Tryd.prog num 34 x651 := .of Tryd.func34 (by kernel_rfl) (by kernel_rfl) (by kernel_rfl) (by kernel_rfl) (by kernel_rfl)
theorem ok35 : FunOK Tryd.prog num 35 x673 := .of Tryd.func35 (by kernel_rfl) (by kernel_rfl) (by kernel_rfl) (by kernel_rfl) (by kernel_rfl)
theorem ok36 : FunOK Tryd.prog num 36 x785 := .of Tryd.func36 (by kernel_rfl) (by kernel_rfl) (by kernel_rfl) (by kernel_rfl) (by kernel_rfl)
theorem ok37 : FunOK Tryd.prog num 37 x786 := .of Tryd.func37 (by kernel_rfl) (by kernel_rfl) (by kernel_rfl) (by kernel_rfl) (by kernel_rfl)
theorem ok38 : FunOK Tryd.prog num 38 x245 := .of Tryd.func38 (by kernel_rfl) (by kernel_rfl) (by kernel_rfl) (by kernel_rfl) (by kernel_rfl)
theorem ok39 : FunOK Tryd.prog num 39 x669 := .of Tryd.func39 (by kernel_rfl) (by kernel_rfl) (by kernel_rfl) (by kernel_rfl) (by kernel_rfl)
theorem ok40 : FunOK Tryd.prog num 40 x502 := .of Tryd.func40 (by kernel_rfl) (by kernel_rfl) (by kernel_rfl) (by kernel_rfl) (by kernel_rfl)
theorem ok41 : FunOK Tryd.prog num 41 x98S := .of Tryd.func41 (by kernel_rfl) (by kernel_rfl) (by kernel_rfl) (by kernel_rfl) (by kernel_rfl)
theorem ok42 : FunOK Tryd.prog num 42 x501 := .of Tryd.func42 (by kernel_rfl) (by kernel_rfl) (by kernel_rfl) (by kernel_rfl) (by kernel_rfl)
theorem ok43 : FunOK Tryd.prog num 43 x99 := .of Tryd.func43 (by kernel_rfl) (by kernel_rfl) (by kernel_rfl) (by kernel_rfl) (by kernel_rfl)
theorem ok44 : FunOK Tryd.prog num 44 x329 := .of Tryd.func44 (by kernel_rfl) (by kernel_rfl) (by kernel_rfl) (by kernel_rfl) (by kernel_rfl)
theorem ok50 : FunOK Tryd.prog num 50 x338 := .of Tryd.func50 (by kernel_rfl) (by kernel_rfl) (by kernel_rfl) (by kernel_rfl) (by kernel_rfl)
theorem ok51 : FunOK Tryd.prog num 51 x379 := .of Tryd.func51 (by kernel_rfl) (by kernel_rfl) (by kernel_rfl) (by kernel_rfl) (by kernel_rfl)
theorem ok54 : FunOK Tryd.prog num 54 x709 := .of Tryd.func54 (by kernel_rfl) (by kernel_rfl) (by kernel_rfl) (by kernel_rfl) (by kernel_rfl)
theorem ok55 : FunOK Tryd.prog num 55 x336 := .of Tryd.func55 (by kernel_rfl) (by kernel_rfl) (by kernel_rfl) (by kernel_rfl) (by kernel_rfl)
theorem ok57 : FunOK Tryd.prog num 57 x380 := .of Tryd.func57 (by kernel_rfl) (by kernel_rfl) (by kernel_rfl) (by kernel_rfl) (by kernel_rfl)
abbrev FnAt (f : Nat) : Prop := ∀ xf, code4X (num f) = some xf → FunOK Tryd.prog num f xf
theorem hit {n : Nat} {x : XFun} (e : code4X (num n) = some x) (k : FunOK Tryd.prog num n x) (r : ∀ f, f < n → FnAt f) : ∀ f, f < n + 1 → FnAt f := fun f h xf hx => by
  rcases Nat.lt_or_eq_of_le (Nat.le_of_lt_succ h) with h | rfl
  · exact r f h xf hx
  · rw [e] at hx; cases hx; exact k
theorem nix {n : Nat} (e : code4X (num n) = none) (r : ∀ f, f < n → FnAt f) : ∀ f, f < n + 1 → FnAt f := fun f h xf hx => by
  rcases Nat.lt_or_eq_of_le (Nat.le_of_lt_succ h) with h | rfl
  · exact r f h xf hx
  · rw [e] at hx; cases hx
theorem upto20 : ∀ f, f < 20 → FnAt f :=
  hit (by kernel_rfl) ok19 <|
  hit (by kernel_rfl) ok18 <|
  hit (by kernel_rfl) ok17 <|
  hit (by kernel_rfl) ok16 <|
  nix (by kernel_rfl) <|
  nix (by kernel_rfl) <|
  nix (by kernel_rfl) <|
  nix (by kernel_rfl) <|
  hit (by kernel_rfl) ok11 <|
  hit (by kernel_rfl) ok10 <|
  hit (by kernel_rfl) ok9 <|
  hit (by kernel_rfl) ok8 <|
  hit (by kernel_rfl) ok7 <|
  nix (by kernel_rfl) <|
  nix (by kernel_rfl) <|
  nix (by kernel_rfl) <|
  hit (by kernel_rfl) ok3 <|
  nix (by kernel_rfl) <|
  nix (by kernel_rfl) <|
  nix (by kernel_rfl) (fun f h => absurd h (Nat.not_lt_zero f))
theorem upto40 : ∀ f, f < 40 → FnAt f :=
  hit (by kernel_rfl) ok39 <|
  hit (by kernel_rfl) ok38 <|
  hit (by kernel_rfl) ok37 <|
  hit (by kernel_rfl) ok36 <|
  hit (by kernel_rfl) ok35 <|
  hit (by kernel_rfl) ok34 <|
  hit (by kernel_rfl) ok33 <|
  hit (by kernel_rfl) ok32 <|
  nix (by kernel_rfl) <|
  nix (by kernel_rfl) <|
  nix (by kernel_rfl) <|
  nix (by kernel_rfl) <|
  nix (by kernel_rfl) <|
  nix (by kernel_rfl) <|
  nix (by kernel_rfl) <|
  nix (by kernel_rfl) <|
  hit (by kernel_rfl) ok23 <|
  hit (by kernel_rfl) ok22 <|
  nix (by kernel_rfl) <|
  hit (by kernel_rfl) ok20 upto20
theorem upto60 : ∀ f, f < 60 → FnAt f :=
  nix (by kernel_rfl) <|
  nix (by kernel_rfl) <|
  hit (by kernel_rfl) ok57 <|
  nix (by kernel_rfl) <|
  hit (by kernel_rfl) ok55 <|
  hit (by kernel_rfl) ok54 <|
  nix (by kernel_rfl) <|
  nix (by kernel_rfl) <|
  hit (by kernel_rfl) ok51 <|
  hit (by kernel_rfl) ok50 <|
  nix (by kernel_rfl) <|
  nix (by kernel_rfl) <|
  nix (by kernel_rfl) <|
  nix (by kernel_rfl) <|
  nix (by kernel_rfl) <|
  hit (by kernel_rfl) ok44 <|
  hit (by kernel_rfl) ok43 <|
  hit (by kernel_rfl) ok42 <|
  hit (by kernel_rfl) ok41 <|
  hit (by kernel_rfl) ok40 upto40
theorem upto80 : ∀ f, f < 80 → FnAt f :=
  nix (by kernel_rfl) <|
  nix (by kernel_rfl) <|
  nix (by kernel_rfl) <|
  nix (by kernel_rfl) <|
  nix (by kernel_rfl) <|
  nix (by kernel_rfl) <|
  nix (by kernel_rfl) <|
  nix (by kernel_rfl) <|
  nix (by kernel_rfl) <|
  nix (by kernel_rfl) <|
  nix (by kernel_rfl) <|
  nix (by kernel_rfl) <|
  nix (by kernel_rfl) <|
  nix (by kernel_rfl) <|
  nix (by kernel_rfl) <|
  nix (by kernel_rfl) <|
  nix (by kernel_rfl) <|
  nix (by kernel_rfl) <|
  nix (by kernel_rfl) <|
  nix (by kernel_rfl) upto60
theorem upto93 : ∀ f, f < 93 → FnAt f :=
  nix (by kernel_rfl) <|
  nix (by kernel_rfl) <|
  nix (by kernel_rfl) <|
  nix (by kernel_rfl) <|
  nix (by kernel_rfl) <|
  nix (by kernel_rfl) <|
  nix (by kernel_rfl) <|
  nix (by kernel_rfl) <|
  nix (by kernel_rfl) <|
  nix (by kernel_rfl) <|
  nix (by kernel_rfl) <|
  nix (by kernel_rfl) <|
  nix (by kernel_rfl) upto80
theorem fns (f : FuncId) (xf : XFun) (h : code4X (num f) = some xf) : FunOK Tryd.prog num f xf := by
  by_cases hf : f < 93
  · exact upto93 f hf xf h
  · have hn : num f = 100000 + f := by
      unfold num
      rw [List.getElem?_eq_none (by rw [show gids.length = 93 from by kernel_rfl]; simp only [FuncId] at *; omega)]; rfl
    rw [hn] at h
    unfold code4X at h
    split at h <;> first | (exfalso; simp only [FuncId] at *; omega) | cases h
theorem nz (f : FuncId) : num f ≠ yieldNo := by
  by_cases hf : f < 93
  · exact (by decide +kernel : ∀ f : Fin 93, num f.val ≠ yieldNo) ⟨f, hf⟩
  · have hn : num f = 100000 + f := by
      unfold num
      rw [List.getElem?_eq_none (by rw [show gids.length = 93 from by kernel_rfl]; simp only [FuncId] at *; omega)]; rfl
    rw [hn, yieldNo]
    simp only [FuncId] at *; omega
def ren169 : Go.Shelf.Ren := ⟨fun | 169 => 21 | n => n, fun | 70 => 45 | 9 => 9 | 0 => 0 | 72 => 48 | 37 => 46 | 127 => 79 | 3 => 3 | 5 => 5 | n => n, fun | n => n⟩
theorem lays169 : Go.Proofs.Lays.n169 Tryd.prog ren169 := {
  mixed := by kernel_rfl
  f169 := Tryd.func21.trans (congrArg some (by kernel_rfl))
  t0 := Tryd.underlying0
  a0 := Tryd.isAgg0
  z0 := Tryd.sizeOf0
  v0 := Tryd.zeroValue0
  t3 := Tryd.underlying3
  a3 := Tryd.isAgg3
  z3 := Tryd.sizeOf3
  v3 := Tryd.zeroValue3
  t9 := Tryd.underlying9
  a9 := Tryd.isAgg9
  z9 := Tryd.sizeOf9
  v9 := Tryd.zeroValue9
  t37 := Tryd.underlying46
  a37 := Tryd.isAgg46
  z37 := Tryd.sizeOf46
  v37 := Tryd.zeroValue46
  t70 := Tryd.underlying45
  a70 := Tryd.isAgg45
  z70 := Tryd.sizeOf45
  v70 := Tryd.zeroValue45
  t72 := Tryd.underlying48
  a72 := Tryd.isAgg48
  z72 := Tryd.sizeOf48
  v72 := Tryd.zeroValue48
  t127 := Tryd.underlying79
  a127 := Tryd.isAgg79
  z127 := Tryd.sizeOf79
  v127 := Tryd.zeroValue79 }
def ren246 : Go.Shelf.Ren := ⟨fun | 246 => 53 | 283 => 59 | 284 => 60 | 285 => 61 | 286 => 62 | 129 => 64 | 317 => 63 | 318 => 65 | 319 => 66 | 320 => 67 | 337 => 68 | 338 => 69 | n => n, fun | 2 => 2 | 3 => 3 | 9 => 9 | 4 => 4 | 171 => 102 | 0 => 0 | 53 => 93 | 37 => 46 | 5 => 5 | 173 => 105 | 212 => 109 | 51 => 110 | 20 => 20 | 213 => 111 | 46 => 113 | 232 => 116 | 233 => 117 | n => n, fun | 17 => 0 | 18 => 1 | 19 => 2 | n => n⟩
theorem lays246 : Go.Proofs.LaysM.n246 Tryd.prog ren246 := {
  mixed := by kernel_rfl
  f129 := Tryd.func64.trans (congrArg some (by kernel_rfl))
  f246 := Tryd.func53.trans (congrArg some (by kernel_rfl))
  f283 := Tryd.func59.trans (congrArg some (by kernel_rfl))
  f284 := Tryd.func60.trans (congrArg some (by kernel_rfl))
  f285 := Tryd.func61.trans (congrArg some (by kernel_rfl))
  f286 := Tryd.func62.trans (congrArg some (by kernel_rfl))
  f317 := Tryd.func63.trans (congrArg some (by kernel_rfl))
  f318 := Tryd.func65.trans (congrArg some (by kernel_rfl))
  f319 := Tryd.func66.trans (congrArg some (by kernel_rfl))
  f320 := Tryd.func67.trans (congrArg some (by kernel_rfl))
  f337 := Tryd.func68.trans (congrArg some (by kernel_rfl))
  f338 := Tryd.func69.trans (congrArg some (by kernel_rfl))
  t0 := Tryd.underlying0
  a0 := Tryd.isAgg0
  z0 := Tryd.sizeOf0
  v0 := Tryd.zeroValue0
  t2 := Tryd.underlying2
  a2 := Tryd.isAgg2
  z2 := Tryd.sizeOf2
  v2 := Tryd.zeroValue2
  t3 := Tryd.underlying3
  a3 := Tryd.isAgg3
  z3 := Tryd.sizeOf3
  v3 := Tryd.zeroValue3
  t4 := Tryd.underlying4
  a4 := Tryd.isAgg4
  z4 := Tryd.sizeOf4
  v4 := Tryd.zeroValue4
  t5 := Tryd.underlying5
  a5 := Tryd.isAgg5
  z5 := Tryd.sizeOf5
  v5 := Tryd.zeroValue5
  t9 := Tryd.underlying9
  a9 := Tryd.isAgg9
  z9 := Tryd.sizeOf9
  v9 := Tryd.zeroValue9
  t20 := Tryd.underlying20
  a20 := Tryd.isAgg20
  z20 := Tryd.sizeOf20
  v20 := Tryd.zeroValue20
  t37 := Tryd.underlying46
  a37 := Tryd.isAgg46
  z37 := Tryd.sizeOf46
  v37 := Tryd.zeroValue46
  t46 := Tryd.underlying113
  a46 := Tryd.isAgg113
  z46 := Tryd.sizeOf113
  v46 := Tryd.zeroValue113
  t51 := Tryd.underlying110
  a51 := Tryd.isAgg110
  z51 := Tryd.sizeOf110
  v51 := Tryd.zeroValue110
  t53 := Tryd.underlying93
  a53 := Tryd.isAgg93
  z53 := Tryd.sizeOf93
  v53 := Tryd.zeroValue93
  t171 := Tryd.underlying102
  a171 := Tryd.isAgg102
  z171 := Tryd.sizeOf102
  v171 := Tryd.zeroValue102
  t173 := Tryd.underlying105
  a173 := Tryd.isAgg105
  z173 := Tryd.sizeOf105
  v173 := Tryd.zeroValue105
  t212 := Tryd.underlying109
  a212 := Tryd.isAgg109
  z212 := Tryd.sizeOf109
  v212 := Tryd.zeroValue109
  t213 := Tryd.underlying111
  a213 := Tryd.isAgg111
  z213 := Tryd.sizeOf111
  t232 := Tryd.underlying116
  a232 := Tryd.isAgg116
  z232 := Tryd.sizeOf116
  v232 := Tryd.zeroValue116
  t233 := Tryd.underlying117
  a233 := Tryd.isAgg117
  z233 := Tryd.sizeOf117
  v233 := Tryd.zeroValue117
  g17 := by kernel_rfl
  g18 := by kernel_rfl
  g19 := by kernel_rfl
  i0 := by kernel_rfl
  i2 := by kernel_rfl
  i3 := by kernel_rfl
  i4 := by kernel_rfl
  i5 := by kernel_rfl
  i9 := by kernel_rfl
  i20 := by kernel_rfl
  i37 := by kernel_rfl
  i46 := by kernel_rfl
  i51 := by kernel_rfl
  i53 := by kernel_rfl
  i171 := by kernel_rfl
  i173 := by kernel_rfl
  i212 := by kernel_rfl
  i232 := by kernel_rfl
  i233 := by kernel_rfl
  m17 := by kernel_rfl
  m18 := by kernel_rfl
  m19 := by kernel_rfl }
theorem ck_num (f : FuncId) (h : num f = 674) : f = 52 := by
  by_cases hf : f < 93
  · exact (by decide +kernel : ∀ f : Fin 93, num f.val = 674 → f.val = 52) ⟨f, hf⟩ h
  · have hn : num f = 100000 + f := by
      unfold num
      rw [List.getElem?_eq_none (by rw [show gids.length = 93 from by kernel_rfl]; simp only [FuncId] at *; omega)]; rfl
    rw [hn] at h
    exfalso; simp only [FuncId] at *; omega
theorem str_num (f : FuncId) (h : num f = 670) : f = ren169.f 169 := by
  by_cases hf : f < 93
  · exact (by decide +kernel : ∀ f : Fin 93, num f.val = 670 → f.val = ren169.f 169) ⟨f, hf⟩ h
  · have hn : num f = 100000 + f := by
      unfold num
      rw [List.getElem?_eq_none (by rw [show gids.length = 93 from by kernel_rfl]; simp only [FuncId] at *; omega)]; rfl
    rw [hn] at h
    exfalso; simp only [FuncId] at *; omega
theorem fmt_num (f : FuncId) (h : num f = 708) : f = ren246.f 246 := by
  by_cases hf : f < 93
  · exact (by decide +kernel : ∀ f : Fin 93, num f.val = 708 → f.val = ren246.f 246) ⟨f, hf⟩ h
  · have hn : num f = 100000 + f := by
      unfold num
      rw [List.getElem?_eq_none (by rw [show gids.length = 93 from by kernel_rfl]; simp only [FuncId] at *; omega)]; rfl
    rw [hn] at h
    exfalso; simp only [FuncId] at *; omega
theorem ck_callable : Callable Tryd.prog 52 := ⟨Tryd.f52, Tryd.func52, by decide +kernel, by kernel_rfl⟩
theorem str_callable : Callable Tryd.prog (ren169.f 169) := ⟨Tryd.f21, Tryd.func21, by decide +kernel, by kernel_rfl⟩
theorem fmt_callable : Callable Tryd.prog (ren246.f 246) := ⟨Tryd.f53, Tryd.func53, by decide +kernel, by kernel_rfl⟩
theorem strExtra : Builder.Extra Tryd.prog ren169 := {
  sizeBuilder := by kernel_rfl
  liesBuilder := by kernel_rfl
  t5 := Tryd.underlying5
  a5 := Tryd.isAgg5
  z5 := Tryd.sizeOf5
  v5 := Tryd.zeroValue5
  infoByte := by kernel_rfl
  cellsByte := by kernel_rfl
  sizeByte := by kernel_rfl
  neB5 := by decide }
abbrev powTab : Tab := ("internal/strconv.uint64pow10", .u64, Lib.pow10Tab)
theorem runs : Runs Tryd.prog (Names.tabs num Tryd.prog [powTab]) code4X (ext4 dig) :=
  ⟨by kernel_rfl, fns, ext4_ok (extCheck_ok checkFacts (by kernel_rfl) ck_num ck_callable) (extStr_ok lays169 strExtra str_num str_callable) (extItoa_ok2 lays246 (List.mem_cons_self ..) fmt_num fmt_callable), nz, code4X_yld, fun _ _ _ _ _ _ => Iff.rfl, fun _ _ _ h => h, fun _ h1 h2 => ⟨h1, h2⟩⟩
end Go.Proofs.YtbomedbbgfcncaaDoor

