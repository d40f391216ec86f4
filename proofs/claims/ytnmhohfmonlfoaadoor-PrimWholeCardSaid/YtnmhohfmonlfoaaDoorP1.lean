import Derived.Test.YtnmhohfmonlfoaaDoorC11
import Derived.Test.YtnmhohfmonlfoaaDoorK4
set_option linter.unusedVariables false
set_option linter.unusedSimpArgs false
namespace Go.EX
abbrev i8v (n : Int) : AV := .imm (.val (.int .u8 n))
abbrev strv (s : ByteArray) : AV := .imm (.val (.string s))
abbrev aval (k n : Int) : AV := .agg [i8v k, int64 n]
abbrev kindT : ByteArray := ⟨#[107, 105, 110, 100]⟩
abbrev zeroT : ByteArray := ⟨#[122, 101, 114, 111]⟩
def wholeR (op a b : Int) : Int × Int × ByteArray :=
  if op = 1 then (2, IntKind.wrap .i64 (a + b), .empty)
  else if op = 2 then (2, IntKind.wrap .i64 (a - b), .empty)
  else if op = 3 then (2, IntKind.wrap .i64 (a * b), .empty)
  else if op = 6 then (1, (if a < b then 1 else 0), .empty)
  else if op = 7 then (1, (if a ≤ b then 1 else 0), .empty)
  else if op ≠ 4 ∧ op ≠ 5 then (0, 0, kindT)
  else if b = 0 then (0, 0, zeroT)
  else if op = 4 then (2, (if b = -1 then IntKind.wrap .i64 (0 - a) else IntKind.wrap .i64 (a.tdiv b)), .empty)
  else (2, (if b = -1 then 0 else a.tmod b), .empty)
section
variable {code : Nat → Option XFun} {ext : Calls'}
structure WholeCode (code : Nat → Option XFun) : Prop where
  c579 : code 579 = some x579
  c582 : code 582 = some x582
  c583 : code 583 = some x583
  c584 : code 584 = some x584
  c585 : code 585 = some x585
  c586 : code 586 = some x586
  c587 : code 587 = some x587
  c588 : code 588 = some x588
  c589 : code 589 = some x589
theorem whole_of (c : WholeCode code) (n : Int) : callW code ext 589 [int64 n] [] = some (aval 2 n, []) := by
  rw [callW_fun code ext c.c589]
  simp -implicitDefEqProofs [x589]
theorem truth_of (c : WholeCode code) (b : Bool) : callW code ext 588 [avb b] [] = some (aval 1 (if b then 1 else 0), []) := by
  rw [callW_fun code ext c.c588]
  cases b <;> simp -implicitDefEqProofs [x588]
theorem sign1 (c : WholeCode code) (a b : Int) : callW code ext 583 [int64 a, int64 b] [] = some (aval 2 (IntKind.wrap .i64 (a + b)), []) := by
  rw [callW_fun code ext c.c583]
  simp -implicitDefEqProofs [x583, whole_of c]
theorem sign2 (c : WholeCode code) (a b : Int) : callW code ext 584 [int64 a, int64 b] [] = some (aval 2 (IntKind.wrap .i64 (a - b)), []) := by
  rw [callW_fun code ext c.c584]
  simp -implicitDefEqProofs [x584, whole_of c]
theorem sign3 (c : WholeCode code) (a b : Int) : callW code ext 585 [int64 a, int64 b] [] = some (aval 2 (IntKind.wrap .i64 (a * b)), []) := by
  rw [callW_fun code ext c.c585]
  simp -implicitDefEqProofs [x585, whole_of c]
theorem sign4 (c : WholeCode code) (a b : Int) : callW code ext 586 [int64 a, int64 b] [] = some (aval 1 (if a < b then 1 else 0), []) := by
  rw [callW_fun code ext c.c586]
  simp -implicitDefEqProofs [x586, truth_of c]
theorem sign5 (c : WholeCode code) (a b : Int) : callW code ext 587 [int64 a, int64 b] [] = some (aval 1 (if a ≤ b then 1 else 0), []) := by
  rw [callW_fun code ext c.c587]
  simp -implicitDefEqProofs [x587, truth_of c]
abbrev signRow : AObj := .rich [i8v 1, .clo 583 [], i8v 2, .clo 584 [], i8v 3, .clo 585 [], i8v 6, .clo 586 [], i8v 7, .clo 587 []]
theorem copies_5 {β : Type} (l : List β) : copies 5 l = l ++ (l ++ (l ++ (l ++ l))) := by simp [copies]
theorem signs_of (c : WholeCode code) : callW code ext 582 [] [] = some (.osl 0 0 2 5 (some 5), [signRow]) := by
  rw [callW_fun code ext c.c582]
  simp -implicitDefEqProofs [x582, copies_5]
structure WholeAt (code : Nat → Option XFun) (ext : Calls') (op a b : Int) (i : Nat) (s : St) : Prop where
  env : s.tidy [0, 1, 2, 6, 10, 11, 12] = { k := 0, env := [(0, i8v op), (1, int64 a), (2, int64 b), (6, .optr 0 0), (10, .osl 1 0 2 5 (some 5)), (11, int64 5), (12, int64 i)], mem := [.rich [i8v 0, int64 0], signRow] }
theorem whole_pass (c : WholeCode code) {op a b : Int} {i : Nat} {s : St} (h : WholeAt code ext op a b i s) {o : Int} {f : Nat} (hi : i < 5) (h1 : ([i8v 1, .clo 583 [], i8v 2, .clo 584 [], i8v 3, .clo 585 [], i8v 6, .clo 586 [], i8v 7, .clo 587 []] : List AV)[i * 2]? = some (i8v o)) (hne : ¬ o = op) :
    ∃ s', den code ext x579L1 (s.tidy [0, 1, 2, 6, 10, 11, 12]) = some (.normal, s') ∧ WholeAt code ext op a b (i + 1) s' := by
  rw [h.env]
  match i, hi with
  | 0, _ => cases h1; exact ⟨_, by simp -implicitDefEqProofs [x579L1, hne]; rfl, ⟨by simp -implicitDefEqProofs; rfl⟩⟩
  | 1, _ => cases h1; exact ⟨_, by simp -implicitDefEqProofs [x579L1, hne]; rfl, ⟨by simp -implicitDefEqProofs; rfl⟩⟩
  | 2, _ => cases h1; exact ⟨_, by simp -implicitDefEqProofs [x579L1, hne]; rfl, ⟨by simp -implicitDefEqProofs; rfl⟩⟩
  | 3, _ => cases h1; exact ⟨_, by simp -implicitDefEqProofs [x579L1, hne]; rfl, ⟨by simp -implicitDefEqProofs; rfl⟩⟩
  | 4, _ => cases h1; exact ⟨_, by simp -implicitDefEqProofs [x579L1, hne]; rfl, ⟨by simp -implicitDefEqProofs; rfl⟩⟩
theorem whole_end (c : WholeCode code) {op a b : Int} {s : St} (h : WholeAt code ext op a b 5 s) :
    ∃ s', den code ext x579L1 (s.tidy [0, 1, 2, 6, 10, 11, 12]) = some (.exit 0, s') ∧ s'.k = 0 ∧ s'.env.get 0 = i8v op ∧ s'.env.get 1 = int64 a ∧ s'.env.get 2 = int64 b ∧ s'.env.get 6 = .optr 0 0 ∧ s'.mem = [.rich [i8v 0, int64 0], signRow] := by
  rw [h.env]
  exact ⟨_, by simp -implicitDefEqProofs [x579L1]; rfl, by simp -implicitDefEqProofs, by simp -implicitDefEqProofs, by simp -implicitDefEqProofs, by simp -implicitDefEqProofs, by simp -implicitDefEqProofs, by simp -implicitDefEqProofs⟩
theorem whole_hit (c : WholeCode code) {op a b k n : Int} {i : Nat} {s : St} (h : WholeAt code ext op a b i s) {f : Nat} (hi : i < 5) (h1 : ([i8v 1, .clo 583 [], i8v 2, .clo 584 [], i8v 3, .clo 585 [], i8v 6, .clo 586 [], i8v 7, .clo 587 []] : List AV)[i * 2]? = some (i8v op)) (h2 : ([i8v 1, .clo 583 [], i8v 2, .clo 584 [], i8v 3, .clo 585 [], i8v 6, .clo 586 [], i8v 7, .clo 587 []] : List AV)[i * 2 + 1]? = some (.clo f []))
    (hf : callW code ext f [int64 a, int64 b] [] = some (aval k n, [])) :
    ∃ s', den code ext x579L1 (s.tidy [0, 1, 2, 6, 10, 11, 12]) = some (.ret, s') ∧ s'.k = 0 ∧ s'.env.get 6 = .optr 0 0 ∧ s'.env.get 7 = strv .empty ∧ ∃ m, s'.mem = [.rich [i8v k, int64 n], signRow] ++ m := by
  rw [h.env]
  match i, hi with
  | 0, _ => cases h1; cases h2; exact ⟨_, by simp -implicitDefEqProofs [x579L1, hf]; rfl, by simp -implicitDefEqProofs, by simp -implicitDefEqProofs, by simp -implicitDefEqProofs, _, by simp -implicitDefEqProofs; rfl⟩
  | 1, _ => cases h1; cases h2; exact ⟨_, by simp -implicitDefEqProofs [x579L1, hf]; rfl, by simp -implicitDefEqProofs, by simp -implicitDefEqProofs, by simp -implicitDefEqProofs, _, by simp -implicitDefEqProofs; rfl⟩
  | 2, _ => cases h1; cases h2; exact ⟨_, by simp -implicitDefEqProofs [x579L1, hf]; rfl, by simp -implicitDefEqProofs, by simp -implicitDefEqProofs, by simp -implicitDefEqProofs, _, by simp -implicitDefEqProofs; rfl⟩
  | 3, _ => cases h1; cases h2; exact ⟨_, by simp -implicitDefEqProofs [x579L1, hf]; rfl, by simp -implicitDefEqProofs, by simp -implicitDefEqProofs, by simp -implicitDefEqProofs, _, by simp -implicitDefEqProofs; rfl⟩
  | 4, _ => cases h1; cases h2; exact ⟨_, by simp -implicitDefEqProofs [x579L1, hf]; rfl, by simp -implicitDefEqProofs, by simp -implicitDefEqProofs, by simp -implicitDefEqProofs, _, by simp -implicitDefEqProofs; rfl⟩
theorem whole_found (c : WholeCode code) {op a b k n : Int} {f : Nat} (j : Nat) (hj : j < 5) (h1 : ([i8v 1, .clo 583 [], i8v 2, .clo 584 [], i8v 3, .clo 585 [], i8v 6, .clo 586 [], i8v 7, .clo 587 []] : List AV)[j * 2]? = some (i8v op)) (h2 : ([i8v 1, .clo 583 [], i8v 2, .clo 584 [], i8v 3, .clo 585 [], i8v 6, .clo 586 [], i8v 7, .clo 587 []] : List AV)[j * 2 + 1]? = some (.clo f []))
    (hf : callW code ext f [int64 a, int64 b] [] = some (aval k n, [])) : ∀ (d : Nat) (s : St), d ≤ j → WholeAt code ext op a b (j - d) s →
    ∃ s', den code ext (.loop [0, 1, 2, 6, 10, 11, 12] x579L1) s = some (.ret, s') ∧ s'.k = 0 ∧ s'.env.get 6 = .optr 0 0 ∧ s'.env.get 7 = strv .empty ∧ ∃ m, s'.mem = [.rich [i8v k, int64 n], signRow] ++ m := by
  intro d
  induction d with
  | zero =>
    intro s _ h
    obtain ⟨s', e1, e2⟩ := whole_hit c h hj h1 h2 hf
    exact ⟨s', by rw [den_loop, e1]; rfl, e2⟩
  | succ d ih =>
    intro s hd h
    have : ∃ o g, ([i8v 1, .clo 583 [], i8v 2, .clo 584 [], i8v 3, .clo 585 [], i8v 6, .clo 586 [], i8v 7, .clo 587 []] : List AV)[(j - (d + 1)) * 2]? = some (i8v o) ∧ ¬ o = op ∧ g = f := by
      match j, hj with
      | 0, _ => omega
      | 1, _ => cases h1; match d, hd with
        | 0, _ => exact ⟨1, f, rfl, by decide, rfl⟩
      | 2, _ => cases h1; match d, hd with
        | 0, _ => exact ⟨2, f, rfl, by decide, rfl⟩
        | 1, _ => exact ⟨1, f, rfl, by decide, rfl⟩
      | 3, _ => cases h1; match d, hd with
        | 0, _ => exact ⟨3, f, rfl, by decide, rfl⟩
        | 1, _ => exact ⟨2, f, rfl, by decide, rfl⟩
        | 2, _ => exact ⟨1, f, rfl, by decide, rfl⟩
      | 4, _ => cases h1; match d, hd with
        | 0, _ => exact ⟨6, f, rfl, by decide, rfl⟩
        | 1, _ => exact ⟨3, f, rfl, by decide, rfl⟩
        | 2, _ => exact ⟨2, f, rfl, by decide, rfl⟩
        | 3, _ => exact ⟨1, f, rfl, by decide, rfl⟩
    obtain ⟨o, g, ho, hne, _⟩ := this
    obtain ⟨s', e1, e2⟩ := whole_pass c h (f := f) (by omega) ho hne
    have e3 : j - (d + 1) + 1 = j - d := by omega
    rw [e3] at e2
    obtain ⟨s2, f1, f2⟩ := ih s' (by omega) e2
    exact ⟨s2, by rw [den_loop, e1]; exact f1, f2⟩
theorem whole_none (c : WholeCode code) {op a b : Int} (h1 : ¬ 1 = op) (h2 : ¬ 2 = op) (h3 : ¬ 3 = op) (h6 : ¬ 6 = op) (h7 : ¬ 7 = op) (s : St) (h : WholeAt code ext op a b 0 s) :
    ∃ s', den code ext (.loop [0, 1, 2, 6, 10, 11, 12] x579L1) s = some (.exit 0, s') ∧ s'.k = 0 ∧ s'.env.get 0 = i8v op ∧ s'.env.get 1 = int64 a ∧ s'.env.get 2 = int64 b ∧ s'.env.get 6 = .optr 0 0 ∧ s'.mem = [.rich [i8v 0, int64 0], signRow] := by
  obtain ⟨s1, e1, f1⟩ := whole_pass c h (f := 0) (o := 1) (by omega) rfl h1
  obtain ⟨s2, e2, f2⟩ := whole_pass c f1 (f := 0) (o := 2) (by omega) rfl h2
  obtain ⟨s3, e3, f3⟩ := whole_pass c f2 (f := 0) (o := 3) (by omega) rfl h3
  obtain ⟨s4, e4, f4⟩ := whole_pass c f3 (f := 0) (o := 6) (by omega) rfl h6
  obtain ⟨s5, e5, f5⟩ := whole_pass c f4 (f := 0) (o := 7) (by omega) rfl h7
  obtain ⟨s6, e6, f6⟩ := whole_end c f5
  refine ⟨s6, ?_, f6⟩
  rw [den_loop, e1, andThen, den_loop, e2, andThen, den_loop, e3, andThen, den_loop, e4, andThen, den_loop, e5, andThen, den_loop, e6]
  rfl
theorem whole_sign (c : WholeCode code) {op a b k n : Int} {f : Nat} (j : Nat) (hj : j < 5) (h1 : ([i8v 1, .clo 583 [], i8v 2, .clo 584 [], i8v 3, .clo 585 [], i8v 6, .clo 586 [], i8v 7, .clo 587 []] : List AV)[j * 2]? = some (i8v op)) (h2 : ([i8v 1, .clo 583 [], i8v 2, .clo 584 [], i8v 3, .clo 585 [], i8v 6, .clo 586 [], i8v 7, .clo 587 []] : List AV)[j * 2 + 1]? = some (.clo f []))
    (hf : callW code ext f [int64 a, int64 b] [] = some (aval k n, [])) : callW code ext 579 [i8v op, int64 a, int64 b] [] = some (.tup [aval k n, strv .empty], []) := by
  have hl := fun s => whole_found c j hj h1 h2 hf j s (Nat.le_refl _)
  rw [Nat.sub_self] at hl
  rw [callW_fun code ext c.c579]
  unfold x579
  generalize x579L1 = L at *
  simp -implicitDefEqProofs [signs_of c]
  generalize hs : (St.mk 0 _ _) = s
  obtain ⟨s', e1, e2, e3, e4, m, e5⟩ := hl s ⟨by subst hs; simp -implicitDefEqProofs⟩
  obtain ⟨k', env', mem'⟩ := s'
  simp only at e2 e3 e4 e5
  subst e2 e5
  simp -implicitDefEqProofs [e1, e3, e4]
end
end Go.EX

