import Derived.Test.YtgidfebccdfjgaaDoorRows
import Derived.Test.YtgidfebccdfjgaaDoorK3
import Derived.Test.YtgidfebccdfjgaaDoorLz
import Derived.Test.YtgidfebccdfjgaaDoorC1
import Derived.Test.YtgidfebccdfjgaaDoorH8
set_option linter.unusedVariables false
set_option linter.unusedSimpArgs false
namespace Go.EX
def code1 : Nat → Option XFun
  | 169 => some x169
  | 170 => some x170
  | 172 => some x172
  | 173 => some x173
  | 174 => some x174
  | 175 => some x175
  | 176 => some x176
  | 177 => some x177
  | 178 => some x178
  | 179 => some x179
  | 180 => some x180
  | 181 => some x181
  | 182 => some x182
  | 183 => some x183
  | 184 => some x184
  | 185 => some x185
  | 186 => some x186
  | 187 => some x187
  | 315 => some x315
  | 316 => some x316
  | 317 => some x317
  | 381 => some x381
  | 567 => some x567
  | _ => none
theorem code1_yld : code1 yieldNo = none := by
  unfold code1
  split <;> first | (rename_i h; exact absurd h (by decide)) | rfl
def ext1 : Calls' := extOr (extTz 735) (extLz 729)
theorem lz_at (g : Nat) (n : Int) (h : 0 ≤ n ∧ n < 18446744073709551616) : extLz g g [.imm (.val (.int .u64 n))] [] = some (.imm (.val (.int .i64 (64 - Lib.bitLen n.toNat : Nat))), []) := by
  unfold extLz
  rw [if_pos rfl]
  exact if_pos h
theorem tz_at (g : Nat) (n : Int) (h : 0 ≤ n ∧ n < 18446744073709551616) : extTz g g [.imm (.val (.int .u64 n))] [] = some (.imm (.val (.int .i64 (Lib.ctz 64 n.toNat : Nat))), []) := by
  unfold extTz
  rw [if_pos rfl]
  exact if_pos h
theorem tz_no (g f : Nat) (h : f ≠ g) (l : List AV) (m : Mem) : extTz g f l m = none := by
  unfold extTz
  exact if_neg h
theorem extOr_no {a b : Calls'} {f : Nat} {l : List AV} {m : Mem} (h : a f l m = none) : extOr a b f l m = b f l m := by
  unfold extOr
  rw [h]
theorem extOr_yes {a b : Calls'} {f : Nat} {l : List AV} {m : Mem} {r} (h : a f l m = some r) : extOr a b f l m = some r := by
  unfold extOr
  rw [h]
theorem knowsLz1 : KnowsLz code1 ext1 := by
  intro x hx
  have h1 : (0 : Int) ≤ x ∧ (x : Int) < 18446744073709551616 := by omega
  have h2 := lz_at 729 x h1
  rw [Int.toNat_natCast] at h2
  rw [callW_ext code1 ext1 rfl (by decide), ext1, extOr_no (tz_no _ _ (by decide) _ _)]
  exact h2
theorem knowsTz1 : KnowsTz code1 ext1 := by
  intro x hx
  have h1 : (0 : Int) ≤ x ∧ (x : Int) < 18446744073709551616 := by omega
  have h2 := tz_at 735 x h1
  rw [Int.toNat_natCast] at h2
  rw [callW_ext code1 ext1 rfl (by decide), ext1, extOr_yes h2]
theorem heaps1 : Heaps code1 ext1 := by
  refine ⟨⟨rfl, rfl, rfl, rfl, rfl⟩, rfl, rfl, rfl, rfl, rfl, rfl, rfl, rfl, rfl, rfl, rfl, rfl, rfl, rfl, code1_yld, knowsLz1, knowsTz1⟩
end Go.EX

namespace Go.Proofs.YtgidfebccdfjgaaDoor
open Go.EX
def gids : List Nat := [100000, 100001, 703, 316, 317, 315, 567, 381, 169, 176, 178, 172, 170, 174, 173, 175, 177, 182, 185, 184, 183, 187, 186, 181, 179, 729, 180, 735, 732, 100029, 100030, 100031, 100032, 100033, 100034, 100035, 100036, 100037, 100038, 100039, 100040, 100041, 100042, 100043, 100044, 100045, 100046, 100047, 100048, 704]
def num (f : FuncId) : Nat := (gids[f]?).getD (100000 + f)
theorem ok3 : FunOK Tryd.prog num 3 x316 := .of Tryd.func3 (by kernel_rfl) (by kernel_rfl) (by kernel_rfl) (by kernel_rfl) (by kernel_rfl)
theorem ok4 : FunOK Tryd.prog num 4 x317 := .of Tryd.func4 (by kernel_rfl) (by kernel_rfl) (by kernel_rfl) (by kernel_rfl) (by kernel_rfl)
theorem ok5 : FunOK Tryd.prog num 5 x315 := .of Tryd.func5 (by kernel_rfl) (by kernel_rfl) (by kernel_rfl) (by kernel_rfl) (by kernel_rfl)
theorem ok6 : FunOK Tryd.prog num 6 x567 := .of Tryd.func6 (by kernel_rfl) (by kernel_rfl) (by kernel_rfl) (by kernel_rfl) (by kernel_rfl)
theorem ok7 : FunOK Tryd.prog num 7 x381 := .of Tryd.func7 (by kernel_rfl) (by kernel_rfl) (by kernel_rfl) (by kernel_rfl) (by kernel_rfl)
theorem ok8 : FunOK Tryd.prog num 8 x169 := .of Tryd.func8 (by kernel_rfl) (by kernel_rfl) (by kernel_rfl) (by kernel_rfl) (by kernel_rfl)
theorem ok9 : FunOK Tryd.prog num 9 x176 := .of Tryd.func9 (by kernel_rfl) (by kernel_rfl) (by kernel_rfl) (by kernel_rfl) (by kernel_rfl)
theorem ok10 : FunOK Tryd.prog num 10 x178 := .of Tryd.func10 (by kernel_rfl) (by kernel_rfl) (by kernel_rfl) (by kernel_rfl) (by kernel_rfl)
theorem ok11 : FunOK Tryd.prog num 11 x172 := .of Tryd.func11 (by kernel_rfl) (by kernel_rfl) (by kernel_rfl) (by kernel_rfl) (by kernel_rfl)
theorem ok12 : FunOK Tryd.prog num 12 x170 := .of Tryd.func12 (by kernel_rfl) (by kernel_rfl) (by kernel_rfl) (by kernel_rfl) (by kernel_rfl)
theorem ok13 : FunOK Tryd.prog num 13 x174 := .of Tryd.func13 (by kernel_rfl) (by kernel_rfl) (by kernel_rfl) (by kernel_rfl) (by kernel_rfl)
theorem ok14 : FunOK Tryd.prog num 14 x173 := .of Tryd.func14 (by kernel_rfl) (by kernel_rfl) (by kernel_rfl) (by kernel_rfl) (by kernel_rfl)
theorem ok15 : FunOK Tryd.prog num 15 x175 := .of Tryd.func15 (by kernel_rfl) (by kernel_rfl) (by kernel_rfl) (by kernel_rfl) (by kernel_rfl)
theorem ok16 : FunOK Tryd.prog num 16 x177 := .of Tryd.func16 (by kernel_rfl) (by kernel_rfl) (by kernel_rfl) (by kernel_rfl) (by kernel_rfl)
theorem ok17 : FunOK Tryd.prog num 17 x182 := .of Tryd.func17 (by kernel_rfl) (by kernel_rfl) (by kernel_rfl) (by kernel_rfl) (by kernel_rfl)
theorem ok18 : FunOK Tryd.prog num 18 x185 := .of Tryd.func18 (by kernel_rfl) (by kernel_rfl) (by kernel_rfl) (by kernel_rfl) (by kernel_rfl)
theorem ok19 : FunOK Tryd.prog num 19 x184 := .of Tryd.func19 (by kernel_rfl) (by kernel_rfl) (by kernel_rfl) (by kernel_rfl) (by kernel_rfl)
theorem ok20 : FunOK Tryd.prog num 20 x183 := .of Tryd.func20 (by kernel_rfl) (by kernel_rfl) (by kernel_rfl) (by kernel_rfl) (by kernel_rfl)
theorem ok21 : FunOK Tryd.prog num 21 x187 := .of Tryd.func21 (by kernel_rfl) (by kernel_rfl) (by kernel_rfl) (by kernel_rfl) (by kernel_rfl)
theorem ok22 : FunOK Tryd.prog num 22 x186 := .of Tryd.func22 (by kernel_rfl) (by kernel_rfl) (by kernel_rfl) (by kernel_rfl) (by kernel_rfl)
theorem ok23 : FunOK Tryd.prog num 23 x181 := .of Tryd.func23 (by kernel_rfl) (by kernel_rfl) (by kernel_rfl) (by kernel_rfl) (by kernel_rfl)
theorem ok24 : FunOK Tryd.prog num 24 x179 := .of Tryd.func24 (by kernel_rfl) (by kernel_rfl) (by kernel_rfl) (by kernel_rfl) (by kernel_rfl)
theorem ok26 : FunOK Tryd.prog num 26 x180 := .of Tryd.func26 (by kernel_rfl) (by kernel_rfl) (by kernel_rfl) (by kernel_rfl) (by kernel_rfl)
abbrev FnAt (f : Nat) : Prop := ∀ xf, code1 (num f) = some xf → FunOK Tryd.prog num f xf
theorem hit {n : Nat} {x : XFun} (e : code1 (num n) = some x) (k : FunOK Tryd.prog num n x) (r : ∀ f, f < n → FnAt f) : ∀ f, f < n + 1 → FnAt f := fun f h xf hx => by
  rcases Nat.lt_or_eq_of_le (Nat.le_of_lt_succ h) with h | rfl
  · exact r f h xf hx
  · rw [e] at hx; cases hx; exact k
theorem nix {n : Nat} (e : code1 (num n) = none) (r : ∀ f, f < n → FnAt f) : ∀ f, f < n + 1 → FnAt f := fun f h xf hx => by
  rcases Nat.lt_or_eq_of_le (Nat.le_of_lt_succ h) with h | rfl
  · exact r f h xf hx
  · rw [e] at hx; cases hx
theorem upto20 : ∀ f, f < 20 → FnAt f :=
  hit (by kernel_rfl) ok19 <|
  hit (by kernel_rfl) ok18 <|
  hit (by kernel_rfl) ok17 <|
  hit (by kernel_rfl) ok16 <|
  hit (by kernel_rfl) ok15 <|
  hit (by kernel_rfl) ok14 <|
  hit (by kernel_rfl) ok13 <|
  hit (by kernel_rfl) ok12 <|
  hit (by kernel_rfl) ok11 <|
  hit (by kernel_rfl) ok10 <|
  hit (by kernel_rfl) ok9 <|
  hit (by kernel_rfl) ok8 <|
  hit (by kernel_rfl) ok7 <|
  hit (by kernel_rfl) ok6 <|
  hit (by kernel_rfl) ok5 <|
  hit (by kernel_rfl) ok4 <|
  hit (by kernel_rfl) ok3 <|
  nix (by kernel_rfl) <|
  nix (by kernel_rfl) <|
  nix (by kernel_rfl) (fun f h => absurd h (Nat.not_lt_zero f))
theorem upto40 : ∀ f, f < 40 → FnAt f :=
  nix (by kernel_rfl) <|
  nix (by kernel_rfl) <|
  nix (by kernel_rfl) <|
  nix (by kernel_rfl) <|
  nix (by kernel_rfl) <|
  nix (by kernel_rfl) <|
  nix (by kernel_rfl) <|
  nix (by kernel_rfl) <|
  nix (by kernel_rfl) <|
  nix (by kernel_rfl) <|
  nix (by kernel_rfl) <|
  nix (by kernel_rfl) <|
  nix (by kernel_rfl) <|
  hit (by kernel_rfl) ok26 <|
  nix (by kernel_rfl) <|
  hit (by kernel_rfl) ok24 <|
  hit (by kernel_rfl) ok23 <|
  hit (by kernel_rfl) ok22 <|
  hit (by kernel_rfl) ok21 <|
  hit (by kernel_rfl) ok20 upto20
theorem upto50 : ∀ f, f < 50 → FnAt f :=
  nix (by kernel_rfl) <|
  nix (by kernel_rfl) <|
  nix (by kernel_rfl) <|
  nix (by kernel_rfl) <|
  nix (by kernel_rfl) <|
  nix (by kernel_rfl) <|
  nix (by kernel_rfl) <|
  nix (by kernel_rfl) <|
  nix (by kernel_rfl) <|
  nix (by kernel_rfl) upto40
theorem fns (f : FuncId) (xf : XFun) (h : code1 (num f) = some xf) : FunOK Tryd.prog num f xf := by
  by_cases hf : f < 50
  · exact upto50 f hf xf h
  · have hn : num f = 100000 + f := by
      unfold num
      rw [List.getElem?_eq_none (by rw [show gids.length = 50 from by kernel_rfl]; simp only [FuncId] at *; omega)]; rfl
    rw [hn] at h
    unfold code1 at h
    split at h <;> first | (exfalso; simp only [FuncId] at *; omega) | cases h
theorem nz (f : FuncId) : num f ≠ yieldNo := by
  by_cases hf : f < 50
  · exact (by decide +kernel : ∀ f : Fin 50, num f.val ≠ yieldNo) ⟨f, hf⟩
  · have hn : num f = 100000 + f := by
      unfold num
      rw [List.getElem?_eq_none (by rw [show gids.length = 50 from by kernel_rfl]; simp only [FuncId] at *; omega)]; rfl
    rw [hn, yieldNo]
    simp only [FuncId] at *; omega
def renLz : Go.Shelf.Ren := ⟨fun | 134 => 25 | 129 => 28 | n => n, fun | 53 => 36 | 3 => 3 | 4 => 4 | 46 => 54 | 5 => 5 | 9 => 9 | n => n, fun | n => n⟩
theorem laysLz : Go.Proofs.Lays.n134 Tryd.prog renLz := {
  mixed := by kernel_rfl
  f129 := Tryd.func28.trans (congrArg some (by kernel_rfl))
  f134 := Tryd.func25.trans (congrArg some (by kernel_rfl))
  t3 := Tryd.underlying3
  a3 := Tryd.isAgg3
  z3 := Tryd.sizeOf3
  v3 := Tryd.zeroValue3
  t4 := Tryd.underlying4
  a4 := Tryd.isAgg4
  z4 := Tryd.sizeOf4
  v4 := Tryd.zeroValue4
  t5 := Tryd.underlying5
  a5 := Tryd.isAgg5
  z5 := Tryd.sizeOf5
  v5 := Tryd.zeroValue5
  t9 := Tryd.underlying9
  a9 := Tryd.isAgg9
  z9 := Tryd.sizeOf9
  v9 := Tryd.zeroValue9
  t46 := Tryd.underlying54
  a46 := Tryd.isAgg54
  z46 := Tryd.sizeOf54
  v46 := Tryd.zeroValue54
  t53 := Tryd.underlying36
  a53 := Tryd.isAgg36
  z53 := Tryd.sizeOf36
  v53 := Tryd.zeroValue36 }
def renTz : Go.Shelf.Ren := ⟨fun | 29 => 27 | n => n, fun | 22 => 36 | 3 => 3 | 4 => 4 | 25 => 54 | 54 => 64 | 0 => 0 | 5 => 5 | n => n, fun | 1 => 0 | n => n⟩
theorem laysTz : Go.Proofs.Lays7.n29 Tryd.prog renTz := {
  mixed := by kernel_rfl
  f29 := Tryd.func27.trans (congrArg some (by kernel_rfl))
  t0 := Tryd.underlying0
  a0 := Tryd.isAgg0
  z0 := Tryd.sizeOf0
  v0 := Tryd.zeroValue0
  i0 := by kernel_rfl
  t3 := Tryd.underlying3
  a3 := Tryd.isAgg3
  z3 := Tryd.sizeOf3
  v3 := Tryd.zeroValue3
  i3 := by kernel_rfl
  t4 := Tryd.underlying4
  a4 := Tryd.isAgg4
  z4 := Tryd.sizeOf4
  v4 := Tryd.zeroValue4
  i4 := by kernel_rfl
  t5 := Tryd.underlying5
  a5 := Tryd.isAgg5
  z5 := Tryd.sizeOf5
  v5 := Tryd.zeroValue5
  i5 := by kernel_rfl
  t22 := Tryd.underlying36
  a22 := Tryd.isAgg36
  z22 := Tryd.sizeOf36
  v22 := Tryd.zeroValue36
  i22 := by kernel_rfl
  t25 := Tryd.underlying54
  a25 := Tryd.isAgg54
  z25 := Tryd.sizeOf54
  v25 := Tryd.zeroValue54
  i25 := by kernel_rfl
  t54 := Tryd.underlying64
  a54 := Tryd.isAgg64
  z54 := Tryd.sizeOf64
  g1 := by kernel_rfl }
theorem lz_num (f : FuncId) (h : num f = 729) : f = renLz.f 134 := by
  by_cases hf : f < 50
  · exact (by decide +kernel : ∀ f : Fin 50, num f.val = 729 → f.val = renLz.f 134) ⟨f, hf⟩ h
  · have hn : num f = 100000 + f := by
      unfold num
      rw [List.getElem?_eq_none (by rw [show gids.length = 50 from by kernel_rfl]; simp only [FuncId] at *; omega)]; rfl
    rw [hn] at h
    exfalso; simp only [FuncId] at *; omega
theorem tz_num (f : FuncId) (h : num f = 735) : f = renTz.f 29 := by
  by_cases hf : f < 50
  · exact (by decide +kernel : ∀ f : Fin 50, num f.val = 735 → f.val = renTz.f 29) ⟨f, hf⟩ h
  · have hn : num f = 100000 + f := by
      unfold num
      rw [List.getElem?_eq_none (by rw [show gids.length = 50 from by kernel_rfl]; simp only [FuncId] at *; omega)]; rfl
    rw [hn] at h
    exfalso; simp only [FuncId] at *; omega
theorem lz_callable : Callable Tryd.prog (renLz.f 134) := ⟨Tryd.f25, Tryd.func25, by decide +kernel, by kernel_rfl⟩
theorem tz_callable : Callable Tryd.prog (renTz.f 29) := ⟨Tryd.f27, Tryd.func27, by decide +kernel, by kernel_rfl⟩
theorem runs : Runs Tryd.prog (Names.tabs num Tryd.prog [tzTab]) code1 ext1 :=
  ⟨by kernel_rfl, fns, extOr_ok (extTz_ok laysTz (by kernel_rfl) (List.mem_cons_self ..) tz_num tz_callable) (extLz_ok laysLz lz_num lz_callable), nz, code1_yld, fun _ _ _ _ _ _ => Iff.rfl⟩
end Go.Proofs.YtgidfebccdfjgaaDoor

