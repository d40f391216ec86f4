import Derived.Test.YtedddogbgdbpmaaDoorK12
set_option linter.unusedVariables false
set_option linter.unusedSimpArgs false
namespace Go.EX
def sKM (nl : Bool) (T : List Obj) (L : List IV) (o : Obj) (w : Int) : Mem :=
 if nl = true then [.rich [.osl 2 0 5 1 none, int64 1152921504606846976, int64 w], .flat L false, .flat (tObj.row (T ++ [o])) false]
 else [.rich [.osl 3 0 5 (T.length + 1) none, int64 1152921504606846976, int64 w], .flat L false, .flat (tObj.row T) false, .flat (tObj.row (T ++ [o])) false]
section
variable {code : Nat → Option XFun} {ext : Calls'}
theorem cellsN (h : code 580 = some x580) {lv : IV} {xs : List Val} (hr : Reads tVal lv xs) (hl : xs.length ≤ 100000000) :
  ∃ m, callW code ext 580 [.imm lv] [] = some (avb (xs.any fun v => decide (v.k = 7)), m) := by
 have elen := zo6 hr
 have loop : ∃ e s', den code ext (.loop [5, 6, 7] x580L1) ⟨0, [(5, .imm lv), (6, int64 xs.length), (7, int64 0)], []⟩ = some (e, s') ∧ e ≠ .normal ∧ ((e = .exit 0 ∧ (xs.any fun v => decide (v.k = 7)) = false ∧ ∃ env m, s' = ⟨0, env, m⟩) ∨ (e = .ret ∧ (xs.any fun v => decide (v.k = 7)) = true ∧ ∃ m, s' = ⟨0, [(2, avb true)], m⟩)) := by
  refine zjt (fun n s => ∃ i, n + i = xs.length ∧ (∀ (j : Nat) v, j < i → xs[j]? = some v → v.k ≠ 7) ∧ s.tidy [5, 6, 7] = ⟨0, [(5, .imm lv), (6, int64 xs.length), (7, int64 i)], []⟩) _ ?_ xs.length _ ⟨0, by omega, fun j v hj => absurd hj (Nat.not_lt_zero j), by simp -implicitDefEqProofs []⟩
  rintro n s ⟨i, hi, hno, hst⟩
  rw [hst]
  by_cases hlt : i < xs.length
  ·obtain ⟨v, hv⟩ : ∃ v, xs[i]? = some v := ⟨_, List.getElem?_eq_getElem hlt⟩
   obtain ⟨row, off, cap, rfl, _, _, hcut⟩ := zo7 hr hv
   have hcut' : cut row (off + i * 2) 2 = some [.val (.int .u8 v.k), .val (.int .i64 v.n)] := hcut
   obtain ⟨i1, hi1⟩ : ∃ i1, i1 = i + 1 := ⟨_, rfl⟩
   have e1 : (i : Int) < xs.length := by omega
   have e3 : IntKind.wrap .i64 ((i : Int) + 1) = (i1 : Int) := by rw [wrapI64 (by omega) (by omega)]; omega
   by_cases h7 : v.k = 7
   ·have ha : (xs.any fun v => decide (v.k = 7)) = true := List.any_eq_true.2 ⟨v, List.mem_of_getElem? hv, by simpa using h7⟩
    refine ⟨.ret, ⟨0, [(2, avb true)], [.rich [.imm (.val (.int .u8 v.k)), int64 v.n]]⟩, ?_, .inr ⟨by simp, .inr ⟨rfl, ha, _, rfl⟩⟩⟩
    rw [h7] at hcut' ⊢
    generalize xs.length = n at *
    simp -implicitDefEqProofs [x580L1, hcut', e1, hlt]
   ·have key : ∃ s', den code ext x580L1 ⟨0, [(5, .imm (.slice row off xs.length cap)), (6, int64 xs.length), (7, int64 i)], []⟩ = some (.normal, s') ∧ s'.tidy [5, 6, 7] = ⟨0, [(5, .imm (.slice row off xs.length cap)), (6, int64 xs.length), (7, int64 i1)], []⟩ := by
     refine stepN ?_
     generalize xs.length = n at *
     simp -implicitDefEqProofs [x580L1, hcut', e1, e3, hlt, h7]
    obtain ⟨s', g1, g2⟩ := key
    refine ⟨.normal, s', g1, .inl ⟨rfl, n - 1, by omega, i1, by omega, fun j u hj hu => ?_, g2⟩⟩
    by_cases hji : j = i
    ·subst hji; rw [hv] at hu; cases hu; exact h7
    ·exact hno j u (by omega) hu
  ·have hie : i = xs.length := by omega
   subst hie
   have ha : (xs.any fun v => decide (v.k = 7)) = false := by
    rw [List.any_eq_false]
    intro v hv
    obtain ⟨j, hj⟩ := List.getElem?_of_mem hv
    have := (List.getElem?_eq_some_iff.1 hj).1
    simpa using hno j v this hj
   refine ⟨.exit 0, ⟨0, [(5, .imm lv), (6, int64 xs.length), (7, int64 xs.length), (8, avb false)], []⟩, ?_, .inr ⟨by simp, .inl ⟨rfl, ha, _, _, rfl⟩⟩⟩
   generalize xs.length = n at *
   simp -implicitDefEqProofs [x580L1]
 refine mem_of ?_
 obtain ⟨e, s', h1, _, hq⟩ := loop
 rw [zbs code ext h]
 rcases hq with ⟨rfl, ha, env, m, rfl⟩ | ⟨rfl, ha, m, rfl⟩
 ·rw [ha]
  generalize xs.length = n at *
  simp -implicitDefEqProofs [x580, elen, h1]
  split <;> rfl
 ·rw [ha]
  generalize xs.length = n at *
  simp -implicitDefEqProofs [x580, elen, h1]
  split <;> rfl
theorem zd0 (c : PlainFns code) (nl : Bool) (T : List Obj) (op n : Int) (h1 : op ≠ 1) (h26 : op ≠ 26) {xs : List Val} (hl : xs.length ≤ 1000) (hw : ∀ x ∈ xs, tVal.wf x) (h7 : (xs.any fun v => decide (v.k = 7)) = true) :
  callW code ext 206 [.optr 0 0, .agg [.imm (.val (.int .u8 op)), int64 n, .osl 1 0 2 xs.length (some xs.length), nilS]] (sL nl T (tVal.row xs) 0) = some (didP 0 0 kindT, sL nl T (tVal.row xs) 0) := by
 obtain ⟨m, f1⟩ := cellsN (ext := ext) c.c580 (lv := .slice (tVal.row xs) 0 xs.length (some xs.length)) (zo8 _ _ hw (by omega) (fun c h => by cases h; exact Nat.le_refl _)) (by omega)
 rw [h7] at f1
 rw [zbs code ext c.c206]
 unfold sL
 generalize tVal.row xs = L at *
 generalize tObj.row T = R at *
 generalize xs.length = k at *
 cases nl <;> simp -implicitDefEqProofs [x206, f1, h1, h26]
theorem zd1 (c : PlainFns code) (nl : Bool) (T : List Obj) (op n : Int) (h1 : op ≠ 1) (h26 : op ≠ 26) {lv : IV} {xs : List Val} (hr : Reads tVal lv xs) (hl : xs.length ≤ 1000) (h7 : (xs.any fun v => decide (v.k = 7)) = true) :
  callW code ext 206 [.optr 0 0, .agg [.imm (.val (.int .u8 op)), int64 n, .imm lv, nilS]] (sM nl T) = some (didP 0 0 kindT, sM nl T) := by
 obtain ⟨m, f1⟩ := cellsN (ext := ext) c.c580 hr (by omega)
 rw [h7] at f1
 rw [zbs code ext c.c206]
 unfold sM
 generalize tObj.row T = R at *
 cases nl <;> simp -implicitDefEqProofs [x206, f1, h1, h26]
theorem do_two (c : PlainFns code) (nl : Bool) (T : List Obj) {a b : Val} (hw : ∀ x ∈ [a, b], tVal.wf x) (h7 : ([a, b].any fun v => decide (v.k = 7)) = false) (k n : Int) (t : ByteArray) :
  (callW code ext 210 [.optr 0 0, .imm (.val (.int .u8 1)), .agg [.imm (.val (.int .u8 a.k)), int64 a.n], .agg [.imm (.val (.int .u8 b.k)), int64 b.n]] (sM nl T) = some (didP k n t, sM nl T) →
   callW code ext 206 [.optr 0 0, .agg [.imm (.val (.int .u8 14)), int64 1, .osl 1 0 2 2 (some 2), nilS]] (sL nl T (tVal.row [a, b]) 0) = some (didP k n t, sL nl T (tVal.row [a, b]) 0)) ∧
  (callW code ext 211 [.optr 0 0, .agg [.imm (.val (.int .u8 a.k)), int64 a.n], .agg [.imm (.val (.int .u8 b.k)), int64 b.n]] (sM nl T) = some (didP k n t, sM nl T) →
   callW code ext 206 [.optr 0 0, .agg [.imm (.val (.int .u8 24)), int64 0, .osl 1 0 2 2 (some 2), nilS]] (sL nl T (tVal.row [a, b]) 0) = some (didP k n t, sL nl T (tVal.row [a, b]) 0)) := by
 obtain ⟨m, f1⟩ := cellsN (ext := ext) c.c580 (lv := .slice (tVal.row [a, b]) 0 2 (some 2)) (zo8 _ _ hw (by simp) (fun c h => by cases h; exact Nat.le_refl _)) (by simp)
 have hrow : tVal.row [a, b] = [.val (.int .u8 a.k), .val (.int .i64 a.n), .val (.int .u8 b.k), .val (.int .i64 b.n)] := rfl
 have w1 : IntKind.wrap .u8 (1 : Int) = 1 := rfl
 rw [h7] at f1
 rw [hrow] at f1 ⊢
 constructor
 all_goals
  intro f2
  rw [zbs code ext c.c206]
  unfold sL sM at *
  generalize tObj.row T = R at *
  cases nl
  ·simp only [Bool.false_eq_true, if_false] at f2 ⊢
   simp -implicitDefEqProofs [x206, f1, f2, w1]
  ·simp only [if_true] at f2 ⊢
   simp -implicitDefEqProofs [x206, f1, f2, w1]
theorem zd8 (c : PlainFns code) (nl : Bool) (T : List Obj) {a b : Val} (hw : ∀ x ∈ [a, b], tVal.wf x) (h7 : ([a, b].any fun v => decide (v.k = 7)) = false) (k n : Int) (t : ByteArray) (o : Obj) (w : Int) :
  (callW code ext 210 [.optr 0 0, .imm (.val (.int .u8 1)), .agg [.imm (.val (.int .u8 a.k)), int64 a.n], .agg [.imm (.val (.int .u8 b.k)), int64 b.n]] (sM nl T) = some (didP k n t, sK nl T o w) →
   callW code ext 206 [.optr 0 0, .agg [.imm (.val (.int .u8 14)), int64 1, .osl 1 0 2 2 (some 2), nilS]] (sL nl T (tVal.row [a, b]) 0) = some (didP k n t, sKM nl T (tVal.row [a, b]) o w)) ∧
  (callW code ext 211 [.optr 0 0, .agg [.imm (.val (.int .u8 a.k)), int64 a.n], .agg [.imm (.val (.int .u8 b.k)), int64 b.n]] (sM nl T) = some (didP k n t, sK nl T o w) →
   callW code ext 206 [.optr 0 0, .agg [.imm (.val (.int .u8 24)), int64 0, .osl 1 0 2 2 (some 2), nilS]] (sL nl T (tVal.row [a, b]) 0) = some (didP k n t, sKM nl T (tVal.row [a, b]) o w)) := by
 obtain ⟨m, f1⟩ := cellsN (ext := ext) c.c580 (lv := .slice (tVal.row [a, b]) 0 2 (some 2)) (zo8 _ _ hw (by simp) (fun c h => by cases h; exact Nat.le_refl _)) (by simp)
 have hrow : tVal.row [a, b] = [.val (.int .u8 a.k), .val (.int .i64 a.n), .val (.int .u8 b.k), .val (.int .i64 b.n)] := rfl
 have w1 : IntKind.wrap .u8 (1 : Int) = 1 := rfl
 rw [h7] at f1
 rw [hrow] at f1 ⊢
 constructor
 all_goals
  intro f2
  rw [zbs code ext c.c206]
  unfold sL sM sK sKM at *
  generalize tObj.row (T ++ [o]) = R2 at *
  generalize tObj.row T = R at *
  cases nl
  ·simp only [Bool.false_eq_true, if_false] at f2 ⊢
   simp -implicitDefEqProofs [x206, f1, f2, w1]
  ·simp only [if_true] at f2 ⊢
   simp -implicitDefEqProofs [x206, f1, f2, w1]
theorem zd7 (c : PlainFns code) {nl : Bool} {T : List Obj} (hnl : nl = true → T = []) (hn : T.length ≤ 100000000) {v : Val} (hw : tVal.wf v) (h7 : v.k ≠ 7) {t : ByteArray} {is : Bool}
  (hx : ∃ m, callW code ext 648 [.imm (if nl = true then .val (.slice none 0 0) else .slice (tObj.row T) 0 T.length (some T.length)), .agg [.imm (.val (.int .u8 v.k)), int64 v.n]] [] = some (.tup [strV t, avb is], m)) :
  callW code ext 206 [.optr 0 0, .agg [.imm (.val (.int .u8 18)), int64 0, .osl 1 0 2 1 (some 1), nilS]] (sL nl T (tVal.row [v]) 0) =
   if is = false then some (didP 0 0 greatN, sL nl T (tVal.row [v]) 0)
   else if t.size ≤ 4096 then some (didP 3 ((T.length + 1 : Nat) : Int) .empty, sKM nl T (tVal.row [v]) (textN t) (wordsObj (textN t))) else some (didP 0 0 greatN, sL nl T (tVal.row [v]) 0) := by
 have hw1 : ∀ x ∈ [v], tVal.wf x := fun x hx => by rw [List.mem_singleton.1 hx]; exact hw
 obtain ⟨m, f1⟩ := cellsN (ext := ext) c.c580 (lv := .slice (tVal.row [v]) 0 1 (some 1)) (zo8 _ _ hw1 (by simp) (fun c h => by cases h; exact Nat.le_refl _)) (by simp)
 have ha : ([v].any fun v => decide (v.k = 7)) = false := by simpa using h7
 rw [ha] at f1
 have hrow : tVal.row [v] = [.val (.int .u8 v.k), .val (.int .i64 v.n)] := rfl
 rw [hrow] at f1 ⊢
 obtain ⟨m2, hx⟩ := hx
 have f2 : callW code ext 208 [.optr 0 0, .agg [.imm (.val (.int .u8 v.k)), int64 v.n]] (sM nl T) = some (.tup [strV t, avb is], sM nl T) := by
  rw [zbs code ext c.c208]
  unfold sM
  generalize tObj.row T = R at *
  cases nl
  ·simp only [Bool.false_eq_true, if_false] at hx ⊢
   simp -implicitDefEqProofs [x208, hx]
  ·simp only [if_true] at hx ⊢
   simp -implicitDefEqProofs [x208, hx]
 have f3 := zl1 (ext := ext) c hnl hn t
 clear hx
 cases is with
 | false =>
  rw [if_pos rfl, zbs code ext c.c206]
  unfold sL sM at *
  generalize tObj.row T = R at *
  cases nl
  ·simp only [Bool.false_eq_true, if_false] at f2 ⊢
   simp -implicitDefEqProofs [x206, f1, f2]
  ·simp only [if_true] at f2 ⊢
   simp -implicitDefEqProofs [x206, f1, f2]
 | true =>
  rw [if_neg (by simp)]
  by_cases ht : t.size ≤ 4096
  ·rw [if_pos ht] at f3 ⊢
   rw [zbs code ext c.c206]
   unfold sL sM sK sKM at *
   generalize wordsObj (textN t) = w at *
   generalize tObj.row (T ++ [textN t]) = R2 at *
   generalize tObj.row T = R at *
   generalize ((T.length + 1 : Nat) : Int) = N1 at *
   cases nl
   ·simp only [Bool.false_eq_true, if_false] at f2 f3 ⊢
    simp -implicitDefEqProofs [x206, f1, f2, f3]
   ·simp only [if_true] at f2 f3 ⊢
    simp -implicitDefEqProofs [x206, f1, f2, f3]
  ·rw [if_neg ht] at f3 ⊢
   rw [zbs code ext c.c206]
   unfold sL sM at *
   generalize tObj.row T = R at *
   cases nl
   ·simp only [Bool.false_eq_true, if_false] at f2 f3 ⊢
    simp -implicitDefEqProofs [x206, f1, f2, f3]
   ·simp only [if_true] at f2 f3 ⊢
    simp -implicitDefEqProofs [x206, f1, f2, f3]
theorem zd2 (c : PlainFns code) {nl : Bool} {T : List Obj} (hnl : nl = true → T = []) (hn : T.length ≤ 100000000) {lv : IV} {xs : List Val} (hr : Reads tVal lv xs) (h0 : 0 < xs.length) (hl : xs.length ≤ 1000) (h7 : (xs.any fun v => decide (v.k = 7)) = false) (l : Sl tVal) (hiv : l.iv = .slice (tVal.row xs) 0 xs.length none) :
  callW code ext 206 [.optr 0 0, .agg [.imm (.val (.int .u8 22)), int64 0, .imm lv, nilS]] (sM nl T) =
   some (didP 4 ((T.length + 1 : Nat) : Int) .empty, sKP nl T (rowN 4 l xs.length) (tVal.row xs) xs.length none (wordsObj (rowN 4 l xs.length))) := by
 obtain ⟨m, f1⟩ := cellsN (ext := ext) c.c580 hr (by omega)
 rw [h7] at f1
 have elen := zo6 hr
 obtain ⟨x0, hx0⟩ : ∃ x, xs[0]? = some x := ⟨_, List.getElem?_eq_getElem h0⟩
 obtain ⟨row, off, cap, rfl, _, hcut, _⟩ := zo7 hr hx0
 have f2 := zcw (ext := ext) c.c742 (cap := cap) (R := tVal.row xs) hcut h0 (by omega)
 have f3 := zli (ext := ext) c hnl hn 4 (.inl rfl) hiv xs.length (by omega) (by omega)
 have p1 := zpu
 have e1 : ¬ (65536 : Int) < xs.length := by omega
 have e1' : ¬ 65536 < xs.length := by omega
 rw [zbs code ext c.c206]
 unfold sM sL sKL sKP at *
 cases nl with
 | true =>
  have hT := hnl rfl
  subst hT
  have hrf : ∀ v : AV, AV.refs.refsL (richRow (tObj.row [rowN 4 l xs.length]) 2 v) = v.refs := fun v => zpe (by rw [zqn]; simp [tObj])
  simp only [if_true] at f3 ⊢
  generalize wordsObj (rowN 4 l xs.length) = w at *
  generalize tObj.row [rowN 4 l xs.length] = R1 at *
  generalize tVal.row xs = W at *
  generalize xs.length = n at *
  simp -implicitDefEqProofs [x206, f1, f2, f3, elen, e1, e1', hrf, p1]
 | false =>
  have hrf : ∀ v : AV, AV.refs.refsL (richRow (tObj.row (T ++ [rowN 4 l xs.length])) (T.length * 5 + 2) v) = v.refs := fun v => zpe (by rw [zqn]; simp [tObj]; omega)
  simp only [Bool.false_eq_true, if_false] at f3 ⊢
  generalize wordsObj (rowN 4 l xs.length) = w at *
  generalize tObj.row (T ++ [rowN 4 l xs.length]) = R1 at *
  generalize tObj.row T = R0 at *
  generalize tVal.row xs = W at *
  generalize xs.length = n at *
  generalize T.length = N at *
  simp -implicitDefEqProofs [x206, f1, f2, f3, elen, e1, e1', hrf, p1]
theorem do_map (c : PlainFns code) {nl : Bool} {T : List Obj} (hnl : nl = true → T = []) (hn : T.length ≤ 100000000) {lv : IV} {a b : Val} (hr : Reads tVal lv [a, b]) (ha : TextOk T a) (h7 : ([a, b].any fun v => decide (v.k = 7)) = false) (l : Sl tVal) (hiv : l.iv = .slice (tVal.row [a, b]) 0 2 none) :
  callW code ext 206 [.optr 0 0, .agg [.imm (.val (.int .u8 23)), int64 0, .imm lv, nilS]] (sM nl T) =
   some (didP 5 ((T.length + 1 : Nat) : Int) .empty, sKP nl T (rowN 5 l 2) (tVal.row [a, b]) 2 none (wordsObj (rowN 5 l 2))) := by
 obtain ⟨m, f1⟩ := cellsN (ext := ext) c.c580 hr (by simp)
 rw [h7] at f1
 have f2 := npairs (ext := ext) c hnl hn hr ha l hiv
 have p1 := zpu
 rw [zbs code ext c.c206]
 unfold sM sKP at *
 cases nl with
 | true =>
  have hT := hnl rfl
  subst hT
  have hrf : ∀ v : AV, AV.refs.refsL (richRow (tObj.row [rowN 5 l 2]) 2 v) = v.refs := fun v => zpe (by rw [zqn]; simp [tObj])
  simp only [if_true] at f2 ⊢
  generalize wordsObj (rowN 5 l 2) = w at *
  generalize tObj.row [rowN 5 l 2] = R1 at *
  generalize tVal.row [a, b] = W at *
  simp -implicitDefEqProofs [x206, f1, f2, hrf, p1]
 | false =>
  have hrf : ∀ v : AV, AV.refs.refsL (richRow (tObj.row (T ++ [rowN 5 l 2])) (T.length * 5 + 2) v) = v.refs := fun v => zpe (by rw [zqn]; simp [tObj]; omega)
  simp only [Bool.false_eq_true, if_false] at f2 ⊢
  generalize wordsObj (rowN 5 l 2) = w at *
  generalize tObj.row (T ++ [rowN 5 l 2]) = R1 at *
  generalize tObj.row T = R0 at *
  generalize tVal.row [a, b] = W at *
  generalize T.length = N at *
  simp -implicitDefEqProofs [x206, f1, f2, hrf, p1]
end
end Go.EX


namespace Go.EX
structure DoCode (code : Nat → Option XFun) (idx : Nat) : Prop extends PlainFns code, TwinCode code idx where
 c640 : code 640 = some x640N
 c641 : code 641 = some x641V
 c642 : code 642 = some x642
 c639 : code 639 = some x639
 c749 : code 749 = some x749
 c759 : code 759 = some x759
def FineN (code : Nat → Option XFun) (ext : Calls') (sv : IV) (vs : List Val) : Prop := ∀ v ∈ vs, callW code ext 646 [.imm sv, .agg [.imm (.val (.int .u8 v.k)), int64 v.n]] [] = some (avb true, [])
section
variable {code : Nat → Option XFun} {ext : Calls'}
theorem zg7 (h : code 641 = some x641V) (sv : IV) (v : Val) (hc : callW code ext 646 [.imm sv, .agg [.imm (.val (.int .u8 v.k)), int64 v.n]] [] = some (avb true, [])) :
  callW code ext 641 [.agg [.imm (.val (.int .u8 v.k)), int64 v.n], .optr 0 0] [.rich [.imm sv]] = some (avb false, [.rich [.imm sv]]) := by
 rw [zbs code ext h]
 simp -implicitDefEqProofs [x641V, hc]
theorem zaq {idx : Nat} (c : DoCode code idx) (sv : IV) (vs : List Val) (hl : vs.length ≤ 1000) (h : FineN code ext sv vs) :
  callW code ext 749 [.osl 0 0 2 vs.length (some vs.length), .clo 641 [.optr 1 0]] [.flat (tVal.row vs) false, .rich [.imm sv]] = some (avb false, [.flat (tVal.row vs) false, .rich [.imm sv]]) := by
 have loop : ∃ e s', den code ext (.loop [0, 1, 7, 8] x759L1) ⟨2, [(0, .osl 0 0 2 vs.length (some vs.length)), (1, .clo 641 [.optr 1 0]), (7, int64 vs.length), (8, int64 0)], [.flat (tVal.row vs) false, .rich [.imm sv]]⟩ = some (e, s') ∧ e ≠ .normal ∧
   (e = .exit 0 ∧ s' = ⟨2, [(0, .osl 0 0 2 vs.length (some vs.length)), (1, .clo 641 [.optr 1 0]), (7, int64 vs.length), (8, int64 vs.length), (9, avb false)], [.flat (tVal.row vs) false, .rich [.imm sv]]⟩) := by
  refine zjt (fun n s => ∃ (i : Nat), i + n = vs.length ∧ s = ⟨2, [(0, .osl 0 0 2 vs.length (some vs.length)), (1, .clo 641 [.optr 1 0]), (7, int64 vs.length), (8, int64 (i : Nat))], [.flat (tVal.row vs) false, .rich [.imm sv]]⟩) _ ?_ vs.length _ ⟨0, by simp, rfl⟩
  rintro n _ ⟨i, hi, rfl⟩
  by_cases hlt : i < vs.length
  ·have e1 : IntKind.wrap .i64 ((i : Int) + 1) = (i : Int) + 1 := wrapI64 (by omega) (by omega)
   have hx := List.getElem?_eq_getElem hlt
   have hget := zf4 (t := tVal) hx
   have hs := zg7 (ext := ext) c.c641 sv _ (h _ (List.getElem_mem hlt))
   simp only [tVal] at hget
   generalize vs[i] = v at *
   have hget' : cut (tVal.row vs) (i * 2) 2 = some [.val (.int .u8 v.k), .val (.int .i64 v.n)] := hget
   refine ⟨.normal, ⟨2, [(0, .osl 0 0 2 vs.length (some vs.length)), (1, .clo 641 [.optr 1 0]), (7, int64 vs.length), (8, int64 ((i : Int) + 1))], [.flat (tVal.row vs) false, .rich [.imm sv]]⟩, ?_, .inl ⟨rfl, n - 1, by omega, i + 1, by omega, rfl⟩⟩
   clear hget h
   generalize tVal.row vs = R at *
   generalize vs.length = n at *
   simp -implicitDefEqProofs [x759L1, hlt, hget', hs, e1]
  ·have : i = vs.length := by omega
   subst this
   refine ⟨.exit 0, _, ?_, .inr ⟨by simp, rfl, rfl⟩⟩
   generalize tVal.row vs = R at *
   generalize vs.length = n at *
   simp -implicitDefEqProofs [x759L1]
 obtain ⟨e, s', g1, _, rfl, rfl⟩ := loop
 have h759 : callW code ext 759 [.osl 0 0 2 vs.length (some vs.length), .clo 641 [.optr 1 0]] [.flat (tVal.row vs) false, .rich [.imm sv]] = some (int64 (-1), [.flat (tVal.row vs) false, .rich [.imm sv]]) := by
  rw [zbs code ext c.c759]
  clear h
  generalize tVal.row vs = R at *
  generalize vs.length = n at *
  simp -implicitDefEqProofs [x759, g1]
 rw [zbs code ext c.c749]
 clear h g1
 generalize tVal.row vs = R at *
 generalize vs.length = n at *
 simp -implicitDefEqProofs [x749, h759]
theorem zap {idx : Nat} (c : DoCode code idx) (sv : IV) {lv : IV} {vs : List Val} (hr : Reads tVal lv vs) (hl : vs.length ≤ 1000) (h : FineN code ext sv vs) :
  callW code ext 749 [.imm lv, .clo 641 [.optr 0 0]] [.rich [.imm sv]] = some (avb false, [.rich [.imm sv]]) := by
 have elen := zo6 hr
 have loop : ∃ e s', den code ext (.loop [0, 1, 7, 8] x759L1) ⟨1, [(0, .imm lv), (1, .clo 641 [.optr 0 0]), (7, int64 vs.length), (8, int64 0)], [.rich [.imm sv]]⟩ = some (e, s') ∧ e ≠ .normal ∧
   (e = .exit 0 ∧ s' = ⟨1, [(0, .imm lv), (1, .clo 641 [.optr 0 0]), (7, int64 vs.length), (8, int64 vs.length), (9, avb false)], [.rich [.imm sv]]⟩) := by
  refine zjt (fun n s => ∃ (i : Nat), i + n = vs.length ∧ s = ⟨1, [(0, .imm lv), (1, .clo 641 [.optr 0 0]), (7, int64 vs.length), (8, int64 (i : Nat))], [.rich [.imm sv]]⟩) _ ?_ vs.length _ ⟨0, by simp, rfl⟩
  rintro n _ ⟨i, hi, rfl⟩
  by_cases hlt : i < vs.length
  ·have e1 : IntKind.wrap .i64 ((i : Int) + 1) = (i : Int) + 1 := wrapI64 (by omega) (by omega)
   obtain ⟨v, hv⟩ : ∃ v, vs[i]? = some v := ⟨_, List.getElem?_eq_getElem hlt⟩
   obtain ⟨row, off, cap, rfl, _, _, hcut⟩ := zo7 hr hv
   have hs := zg7 (ext := ext) c.c641 sv _ (h _ (List.mem_of_getElem? hv))
   have hget' : cut row (off + i * 2) 2 = some [.val (.int .u8 v.k), .val (.int .i64 v.n)] := hcut
   refine ⟨.normal, ⟨1, [(0, .imm (.slice row off vs.length cap)), (1, .clo 641 [.optr 0 0]), (7, int64 vs.length), (8, int64 ((i : Int) + 1))], [.rich [.imm sv]]⟩, ?_, .inl ⟨rfl, n - 1, by omega, i + 1, by omega, rfl⟩⟩
   clear h
   generalize vs.length = n at *
   simp -implicitDefEqProofs [x759L1, hlt, hget', hs, e1]
  ·have : i = vs.length := by omega
   subst this
   refine ⟨.exit 0, _, ?_, .inr ⟨by simp, rfl, rfl⟩⟩
   generalize vs.length = n at *
   simp -implicitDefEqProofs [x759L1]
 obtain ⟨e, s', g1, _, rfl, rfl⟩ := loop
 have h759 : callW code ext 759 [.imm lv, .clo 641 [.optr 0 0]] [.rich [.imm sv]] = some (int64 (-1), [.rich [.imm sv]]) := by
  rw [zbs code ext c.c759]
  clear h
  generalize vs.length = n at *
  simp -implicitDefEqProofs [x759, g1, elen]
 rw [zbs code ext c.c749]
 clear h g1
 simp -implicitDefEqProofs [x749, h759]
theorem zsi (h : code 642 = some x642) : callW code ext 642 [nilS] [] = some (nilS, []) := by
 rw [zbs code ext h]
 simp -implicitDefEqProofs [x642]
 rw [zdn]
 simp -implicitDefEqProofs [x642L1]
theorem za6 (h : code 639 = some x639) : callW code ext 639 [nilS, nilS] [] = some (int64 0, []) := by
 rw [zbs code ext h]
 simp -implicitDefEqProofs [x639]
 rw [zdn]
 simp -implicitDefEqProofs [x639L1]
end
end Go.EX


namespace Go.EX
section
variable {code : Nat → Option XFun} {ext : Calls'}
theorem zcr (h : code 743 = some x743) {T : List Obj} (hn : T.length ≤ 100000000) (cap : Option Nat) :
  callW code ext 743 [.osl 0 0 5 T.length cap] [.flat (tObj.row T) false] = some (.osl 1 0 5 T.length (if T.length = 0 then some 0 else none), [.flat (tObj.row T) false, .flat (tObj.row T) false]) := zcx h hn false cap (zdh tObj T)
theorem zt1 (h : code 742 = some x742) (h2 : code 740 = some x740) {T : List Obj} (hT : ∀ o ∈ T, o.l.xs.length ≤ 1000000) (hn : T.length ≤ 100000000) (c : Nat) (hc : T.length * 5 < c) (C : List IV) (cp : Option Nat) {i : Nat} (hlt : i < T.length) :
  ∃ s', den code ext (x643PL1 c) ⟨1, [(3, .osl 1 0 5 T.length cp), (8, int64 T.length), (9, int64 i)], [.flat C false, .flat (tObj.row ((T.take i).map cloneObj ++ T.drop i)) false]⟩ = some (.normal, s') ∧
   s'.tidy [3, 8, 9] = ⟨1, [(3, .osl 1 0 5 T.length cp), (8, int64 T.length), (9, int64 ((i : Int) + 1))], [.flat C false, .flat (tObj.row ((T.take (i + 1)).map cloneObj ++ T.drop (i + 1))) false]⟩ := by
 have hx := List.getElem?_eq_getElem hlt
 have hmem := List.getElem_mem hlt
 have hb := hT _ hmem
 have hti : ((T.take i).map cloneObj).length = i := by rw [List.length_map, List.length_take]; omega
 have hgo : ((T.take i).map cloneObj ++ T.drop i)[i]? = some T[i] := by
  rw [List.getElem?_append_right (by omega), hti, Nat.sub_self, List.getElem?_drop, Nat.add_zero]; exact hx
 have hset := zqp _ i _ (cloneL T[i].l) hgo
 have hcell := zdd (zf4 (t := tObj) hgo) 2 (by decide)
 have hnew : ((T.take i).map cloneObj ++ T.drop i).set i { T[i] with l := cloneL T[i].l } = (T.take (i + 1)).map cloneObj ++ T.drop (i + 1) := by
  rw [List.drop_eq_getElem_cons hlt, List.set_append_right _ _ (by omega), hti, Nat.sub_self, List.set_cons_zero, List.take_add_one, hx, Option.toList_some, List.map_append, List.append_assoc]
  rfl
 rw [hnew] at hset
 have hlen : ((T.take i).map cloneObj ++ T.drop i).length = T.length := by rw [List.length_append, hti, List.length_drop]; omega
 have hrl := zqn tObj ((T.take i).map cloneObj ++ T.drop i)
 rw [hlen] at hrl
 have hcc := zct (ext := ext) h h2 T[i].l (by omega)
 have e1 : IntKind.wrap .i64 ((i : Int) + 1) = (i : Int) + 1 := wrapI64 (by omega) (by omega)
 have hlt' : (i : Int) < T.length := by omega
 have hcl : (tObj.row ((T.take i).map cloneObj ++ T.drop i))[i * 5 + 2]? = some T[i].l.iv := hcell
 generalize tObj.row ((T.take i).map cloneObj ++ T.drop i) = R at *
 generalize tObj.row ((T.take (i + 1)).map cloneObj ++ T.drop (i + 1)) = R' at *
 have hR : i * 5 + 2 + 1 ≤ R.length := by rw [hrl]; simp only [tObj]; omega
 have hsa : setAll R (i * 5 + 2) [(cloneL T[i].l).iv] = R' := hset
 have hoff : ¬ i * 5 + 2 = c := by omega
 refine stepN ?_
 generalize T[i] = o at *
 rcases hcc with ⟨c0, cx, c1, c2, c3⟩ | ⟨c0, cap, c1, c2, c3⟩
 ·rw [c3] at hsa
  rw [c0] at c1 hcl
  simp -implicitDefEqProofs [x643PL1, exStoreF, exLook, hlt, hlt', hcl, c1, c2, e1, hR, hsa, hoff]
 ·rw [c3] at hsa
  generalize tVal.row o.l.xs = W2 at *
  generalize o.l.xs.length = n2 at *
  simp -implicitDefEqProofs [x643PL1, exStoreF, exLook, hlt, hlt', hcl, c1, c2, e1, hR, hsa, hoff]
theorem zt0 {idx : Nat} (c : TwinCode code idx) {T : List Obj} (hi : T.length < idx) (hT : ∀ o ∈ T, o.l.xs.length ≤ 1000000) (hn : T.length ≤ 100000000) (cap : Option Nat) :
  callW code ext 643 [.osl 0 0 5 T.length cap] [.flat (tObj.row T) false] = some (.osl 1 0 5 T.length (some T.length), [.flat (tObj.row T) false, .flat (tObj.row (T.map cloneObj)) false]) := by
 have g1 := zcr (ext := ext) c.c743 hn cap
 have hcp : (if T.length = 0 then some 0 else none) = none ∨ (if T.length = 0 then some 0 else none) = some T.length := by
  split
  ·rename_i h0; rw [h0]; exact .inr rfl
  ·exact .inl rfl
 generalize (if T.length = 0 then some 0 else none : Option Nat) = cp at g1 hcp
 have g2 := zcp (ext := ext) c.c741 T.length cp hcp (tObj.row (T.map cloneObj))
 have loop : ∃ e s', den code ext (.loop [3, 8, 9] (x643PL1 (idx * 5 + 2))) ⟨1, [(3, .osl 1 0 5 T.length cp), (8, int64 T.length), (9, int64 0)], [.flat (tObj.row T) false, .flat (tObj.row T) false]⟩ = some (e, s') ∧ e ≠ .normal ∧ (e = .exit 0 ∧ s' = ⟨1, [(3, .osl 1 0 5 T.length cp), (8, int64 T.length), (9, int64 T.length), (10, avb false)], [.flat (tObj.row T) false, .flat (tObj.row (T.map cloneObj)) false]⟩) := by
  refine zjt (fun n s => ∃ i, i + n = T.length ∧ s.tidy [3, 8, 9] = ⟨1, [(3, .osl 1 0 5 T.length cp), (8, int64 T.length), (9, int64 (i : Nat))], [.flat (tObj.row T) false, .flat (tObj.row ((T.take i).map cloneObj ++ T.drop i)) false]⟩) _ ?_ T.length _ ⟨0, by simp, by
   rw [List.take_zero, List.map_nil, List.nil_append, List.drop_zero]
   generalize tObj.row T = R
   simp -implicitDefEqProofs []⟩
  rintro n s ⟨i, hi2, hst⟩
  rw [hst]
  by_cases hlt : i < T.length
  ·obtain ⟨s', g1, g2⟩ := zt1 (ext := ext) c.c742 c.c740 hT hn (idx * 5 + 2) (by omega) (tObj.row T) cp hlt
   exact ⟨.normal, s', g1, .inl ⟨rfl, n - 1, by omega, i + 1, by omega, by rw [g2, Int.natCast_add]; rfl⟩⟩
  ·have : i = T.length := by omega
   subst this
   rw [List.take_length, List.drop_length, List.append_nil]
   refine ⟨.exit 0, _, ?_, .inr ⟨by simp, rfl, rfl⟩⟩
   generalize tObj.row T = R0
   generalize tObj.row (T.map cloneObj) = R1
   simp -implicitDefEqProofs [x643PL1]
 obtain ⟨e, s', l1, _, rfl, rfl⟩ := loop
 rw [zbs code ext c.c643]
 unfold x643P
 generalize x643PL1 (idx * 5 + 2) = L at *
 generalize tObj.row (T.map cloneObj) = R1 at *
 generalize tObj.row T = R0 at *
 generalize T.length = N at *
 simp -implicitDefEqProofs [g1, g2, l1]
end
end Go.EX


namespace Go.EX
theorem zcq {T : List Obj} (hT : ∀ o ∈ T, o.l.xs.length ≤ 1000000) : ∀ o ∈ T.map cloneObj, o.l.xs.length ≤ 1000000 := by
 intro o ho
 obtain ⟨q, hq, rfl⟩ := List.mem_map.1 ho
 have : (cloneObj q).l.xs = q.l.xs := by
  unfold cloneObj cloneL
  dsimp only
  split <;> rfl
 rw [this]
 exact hT q hq
theorem zcz {o : Obj} (h : tObj.wf o) : tObj.wf (cloneObj o) := h
theorem zj2 {T : List Obj} (h : ∀ o ∈ T, tObj.wf o) : ∀ o ∈ T.map cloneObj, tObj.wf o := by
 intro o ho
 obtain ⟨q, hq, rfl⟩ := List.mem_map.1 ho
 exact zcz (h q hq)
theorem zsf (T : List Obj) : (sizeRow T).all IV.plain = true := by
 rw [List.all_eq_true]
 intro x hx
 unfold sizeRow at hx
 rw [List.mem_map] at hx
 obtain ⟨o, _, rfl⟩ := hx
 rfl
structure StoreN (nl : Bool) (sv : IV) (S : List Obj) (idx : Nat) : Prop where
 rd : Reads tObj sv S
 nil : nl = true → sv = .val (.slice none 0 0) ∧ S = []
 some : nl = false → isNilIV sv = false
 lt : S.length + 1 < idx
 l : ∀ o ∈ S, o.l.xs.length ≤ 1000000
 len : S.length ≤ 10000000
section
variable {code : Nat → Option XFun} {ext : Calls'}
theorem StoreN.none {nl : Bool} {sv : IV} {S : List Obj} {idx : Nat} (h : StoreN nl sv S idx) : S[idx]? = none := List.getElem?_eq_none (by have := h.lt; omega)
theorem ztp {T : List Obj} {idx : Nat} (h : T[idx]? = none) (b : Bool) (R : List IV) : tgtM T idx b R = [.flat R false] := by
 unfold tgtM; rw [h]
set_option maxHeartbeats 4000000 in
theorem zdv {idx : Nat} (c : DoCode code idx) {nl : Bool} {sv : IV} {S : List Obj} (hs : StoreN nl sv S idx) {xs : List Val} (hl : xs.length ≤ 1000) (hf : FineN code ext sv xs) (op n0 k n : Int) (t : ByteArray)
  (hd : callW code ext 206 [.optr 0 0, .agg [.imm (.val (.int .u8 op)), int64 n0, .osl 1 0 2 xs.length (some xs.length), nilS]] (sL nl (S.map cloneObj) (tVal.row xs) 0) = some (didP k n t, sL nl (S.map cloneObj) (tVal.row xs) 0)) :
  callW code ext 640 [.imm sv, .imm (.val (.int .u8 op)), int64 n0, .osl 0 0 2 xs.length (some xs.length)] [.flat (tVal.row xs) false] =
   some (.agg [if nl = true then nilS else .osl 1 0 5 S.length (some S.length), .imm (.val (.int .u8 k)), int64 n, strV t, int64 0], [.flat (tVal.row xs) false] ++ if nl = true then [] else [.flat (tObj.row ((S.map cloneObj).map cloneObj)) false]) := by
 have ha := zaq (ext := ext) c sv xs hl hf
 cases nl with
 | true =>
  obtain ⟨rfl, rfl⟩ := hs.nil rfl
  have h1 := zt3 (ext := ext) c.toTwinCode
  have h2 := zsi (ext := ext) c.c642
  have h3 := za6 (ext := ext) c.c639
  clear hf
  rw [zbs code ext c.c640]
  unfold sL at hd
  simp only [if_true] at hd ⊢
  generalize tVal.row xs = L at *
  generalize xs.length = m at *
  simp -implicitDefEqProofs [x640N, h1, h2, h3, ha, hd]
 | false =>
  have hz := hs.some rfl
  have hlen := hs.len
  have h1 := zt4 (ext := ext) c.toTwinCode hs.rd hz hs.l (by omega)
  rw [ztp hs.none] at h1
  have hml : (S.map cloneObj).length = S.length := List.length_map ..
  have h2 := zt0 (ext := ext) c.toTwinCode (T := S.map cloneObj) (by rw [hml]; have := hs.lt; omega) (zcq hs.l) (by rw [hml]; omega) (some S.length)
  have h3 := zsk (ext := ext) (T := S.map cloneObj) c.c642 c.c578 (some S.length) (zdh tObj _) (by rw [hml]; omega)
  have h4 := za8 (ext := ext) (T := S.map cloneObj) (B := []) c.c639 c.c578 (some S.length) (by rw [List.append_nil]; exact zdh tObj _) (by rw [List.append_nil, hml]; omega)
  rw [List.append_nil, show askSum [] = 0 from rfl] at h4
  unfold sizeV sizeM at h3
  unfold wasV at h4
  rw [hml] at h2 h3 h4
  have hW := zsf (S.map cloneObj)
  clear hf
  rw [zbs code ext c.c640]
  unfold sL at hd
  rw [hml] at hd
  simp only [Bool.false_eq_true, if_false] at hd ⊢
  generalize sizeRow (S.map cloneObj) = W at *
  generalize tObj.row ((S.map cloneObj).map cloneObj) = R2 at *
  generalize tObj.row (S.map cloneObj) = R1 at *
  generalize tVal.row xs = L at *
  generalize xs.length = m at *
  by_cases h0 : S.length = 0
  ·rw [if_pos h0, if_pos h0] at h3
   rw [if_pos h0] at h4
   generalize S.length = N at *
   simp -implicitDefEqProofs [x640N, exLook, h1, h2, h3, h4, ha, hd]
  ·rw [if_neg h0, if_neg h0] at h3
   rw [if_neg h0] at h4
   generalize S.length = N at *
   simp -implicitDefEqProofs [-IV.plain, x640N, exLook, h1, h2, h3, h4, ha, hd, hW]
end
end Go.EX


namespace Go.EX
theorem zto {t : ByteArray} (ht : t.size ≤ 4096) : tObj.wf (textN t) := by
 have h3 : (tInt .u8).wf (3 : Int) := wfU8.2 ⟨by decide, by decide⟩
 have h0 : (tInt .i64).wf (0 : Int) := wfI64.2 ⟨by decide, by decide⟩
 refine ⟨h3, ?_, h0, h0⟩
 show t.size ≤ _
 exact Nat.le_trans ht (by decide)
section
variable {code : Nat → Option XFun} {ext : Calls'}
set_option maxHeartbeats 4000000 in
theorem zdz {idx : Nat} (c : DoCode code idx) {nl : Bool} {sv : IV} {S : List Obj} (hs : StoreN nl sv S idx) {xs : List Val} (hl : xs.length ≤ 1000) (hf : FineN code ext sv xs) (op n0 k n : Int) (t : ByteArray) {o : Obj} (ho : tObj.wf o) (hol : o.l.xs = []) (w : Int)
  (hd : callW code ext 206 [.optr 0 0, .agg [.imm (.val (.int .u8 op)), int64 n0, .osl 1 0 2 xs.length (some xs.length), nilS]] (sL nl (S.map cloneObj) (tVal.row xs) 0) = some (didP k n t, sKM nl (S.map cloneObj) (tVal.row xs) o w)) :
  callW code ext 640 [.imm sv, .imm (.val (.int .u8 op)), int64 n0, .osl 0 0 2 xs.length (some xs.length)] [.flat (tVal.row xs) false] =
   some (.agg [.osl 1 0 5 (S.length + 1) (some (S.length + 1)), .imm (.val (.int .u8 k)), int64 n, strV t, int64 (askSum [o])], [.flat (tVal.row xs) false, .flat (tObj.row ((S.map cloneObj ++ [o]).map cloneObj)) false]) := by
 have ha := zaq (ext := ext) c sv xs hl hf
 cases nl with
 | true =>
  obtain ⟨rfl, rfl⟩ := hs.nil rfl
  have h1 := zt3 (ext := ext) c.toTwinCode
  have h2 := zsi (ext := ext) c.c642
  have h4 := za8 (ext := ext) (T := []) (B := [o]) c.c639 c.c578 none (C := tObj.row [o]) (zdh tObj [o]) (by simp)
  have h3 := zt0 (ext := ext) c.toTwinCode (T := [o]) (by have := hs.lt; simpa using this) (by intro q hq; rw [List.mem_singleton.1 hq, hol]; simp) (by simp) none
  simp only [wasV, List.length_nil, List.length_cons, if_true, List.nil_append] at h3 h4
  clear hf
  rw [zbs code ext c.c640]
  unfold sL sKM at hd
  simp only [if_true, List.map_nil, List.nil_append, List.length_nil, Nat.zero_add] at hd ⊢
  generalize tVal.row xs = L at *
  generalize xs.length = m at *
  generalize tObj.row (List.map cloneObj [o]) = R2 at *
  generalize tObj.row [o] = R1 at *
  generalize askSum [o] = ask at *
  simp -implicitDefEqProofs [x640N, exLook, h1, h2, h3, h4, ha, hd]
 | false =>
  have hz := hs.some rfl
  have hlen := hs.len
  have h1 := zt4 (ext := ext) c.toTwinCode hs.rd hz hs.l (by omega)
  rw [ztp hs.none] at h1
  have hml : (S.map cloneObj).length = S.length := List.length_map ..
  have hml1 : (S.map cloneObj ++ [o]).length = S.length + 1 := by rw [List.length_append, hml]; rfl
  have h2 := zt0 (ext := ext) c.toTwinCode (T := S.map cloneObj ++ [o]) (by rw [hml1]; have := hs.lt; omega) (by
   intro q hq
   rcases List.mem_append.1 hq with hq | hq
   ·exact zcq hs.l q hq
   ·rw [List.mem_singleton.1 hq, hol]; simp) (by rw [hml1]; omega) none
  have h3 := zsk (ext := ext) (T := S.map cloneObj) c.c642 c.c578 (some S.length) (zdh tObj _) (by rw [hml]; omega)
  have h4 := za8 (ext := ext) (T := S.map cloneObj) (B := [o]) c.c639 c.c578 none (zdh tObj _) (by rw [hml1]; omega)
  unfold sizeV sizeM at h3
  unfold wasV at h4
  rw [hml1] at h2 h4
  rw [hml] at h3 h4
  have hW := zsf (S.map cloneObj)
  clear hf
  rw [zbs code ext c.c640]
  unfold sL sKM at hd
  rw [hml] at hd
  simp only [Bool.false_eq_true, if_false] at hd ⊢
  generalize sizeRow (S.map cloneObj) = W at *
  generalize tObj.row ((S.map cloneObj ++ [o]).map cloneObj) = R3 at *
  generalize tObj.row (S.map cloneObj ++ [o]) = R2 at *
  generalize tObj.row (S.map cloneObj) = R1 at *
  generalize tVal.row xs = L at *
  generalize xs.length = m at *
  generalize askSum [o] = ask at *
  by_cases h0 : S.length = 0
  ·rw [if_pos h0, if_pos h0] at h3
   rw [if_pos h0] at h4
   generalize S.length = N at *
   simp -implicitDefEqProofs [x640N, exLook, h1, h2, h3, h4, ha, hd]
  ·rw [if_neg h0, if_neg h0] at h3
   rw [if_neg h0] at h4
   generalize S.length = N at *
   simp -implicitDefEqProofs [-IV.plain, x640N, exLook, h1, h2, h3, h4, ha, hd, hW]
end
end Go.EX


namespace Go.EX
theorem zhk : ∀ (R : List IV) (p : Nat) (a b c d : Nat) (e : Option Nat), p < R.length → imms (richRow R p (.osl a b c d e)) = none
 | [], p, a, b, c, d, e, h => absurd h (Nat.not_lt_zero _)
 | x :: r, 0, a, b, c, d, e, h => rfl
 | x :: r, p + 1, a, b, c, d, e, h => by
  have ih := zhk r p a b c d e (by simpa using h)
  unfold richRow at ih ⊢
  rw [List.map_cons, List.set_cons_succ]
  show (imms _).map _ = none
  rw [ih]
  rfl
theorem zp3 (R : List IV) (p : Nat) (v : AV) (x : IV) : setAll (richRow R p v) p [.imm x] = (R.set p x).map .imm := by
 show (richRow R p v).set p (.imm x) = _
 unfold richRow
 rw [List.set_set, List.map_set]
theorem zp6 (R : List IV) (p : Nat) (v w : AV) : setAll (richRow R p v) p [w] = richRow R p w := zp7 R p v w
section
variable {code : Nat → Option XFun} {ext : Calls'}
theorem zcs (h : code 743 = some x743) {T : List Obj} (h0 : T.length ≠ 0) (hn : T.length ≤ 100000000) (cap : Option Nat) (p : Nat) (hp : p < T.length * 5) (n : Nat) (cp : Option Nat) (W : List IV) :
  callW code ext 743 [.osl 0 0 5 T.length cap] [.rich (richRow (tObj.row T) p (.osl 1 0 2 n cp)), .flat W false] =
   some (.osl 2 0 5 T.length none, [.rich (richRow (tObj.row T) p (.osl 1 0 2 n cp)), .flat W false, .rich (richRow (tObj.row T) p (.osl 1 0 2 n cp))]) := by
 have hrl : (tObj.row T).length = T.length * 5 := zqn tObj T
 have p1 := zpu
 have hrf := zpe (R := tObj.row T) (p := p) (v := .osl 1 0 2 n cp) (by omega)
 have hrl2 := zp4 (tObj.row T) p (.osl 1 0 2 n cp)
 have hno := zhk (tObj.row T) p 1 0 2 n cp (by omega)
 rw [hrl] at hrl2
 have hcut := zdb _ hrl2
 generalize tObj.row T = R0 at *
 have h2 : T.length * 64 ≤ 140737488355328 := by omega
 generalize T.length = N at *
 rw [zbs code ext h]
 simp -implicitDefEqProofs [x743, exAppendX, exAppend, exAppendR, elems, elemsR, h0, h2, hrf, p1, hrl2, hcut, hno]
theorem zm6 (h : code 742 = some x742) (h2 : code 740 = some x740) (xs : List Val) (hx : xs.length ≤ 1000000000) (cp : Option Nat) :
  ∃ c : Option Nat, callW code ext 742 [.osl 0 0 2 xs.length cp] [.flat (tVal.row xs) false] = some (.osl 1 0 2 xs.length c, [.flat (tVal.row xs) false, .flat (tVal.row xs) false]) ∧
   callW code ext 740 [.osl 0 0 2 xs.length c] [.flat (tVal.row xs) false] = some (.osl 0 0 2 xs.length (some xs.length), [.flat (tVal.row xs) false]) := by
 have hc := zdh tVal xs
 have hle : xs.length * 16 ≤ 140737488355328 := by omega
 have hclip : ∀ cap : Option Nat, (cap = none ∨ cap = some xs.length) → callW code ext 740 [.osl 0 0 2 xs.length cap] [.flat (tVal.row xs) false] = some (.osl 0 0 2 xs.length (some xs.length), [.flat (tVal.row xs) false]) := by
  intro cap hcap
  rw [zbs code ext h2]
  generalize tVal.row xs = R
  rcases hcap with rfl | rfl <;> simp -implicitDefEqProofs [x740, exSlice3]
 by_cases h0 : xs.length = 0
 ·have hx : xs = [] := List.eq_nil_of_length_eq_zero h0
  subst hx
  refine ⟨some 0, ?_, hclip _ (.inr rfl)⟩
  have hr : tVal.row ([] : List Val) = [] := rfl
  rw [zbs code ext h, hr]
  simp -implicitDefEqProofs [x742, exAppendX, exAppend, elems]
 ·refine ⟨none, ?_, hclip _ (.inl rfl)⟩
  have hc' : cut (tVal.row xs) 0 (xs.length * 2) = some (tVal.row xs) := hc
  rw [zbs code ext h]
  clear hc hclip
  generalize tVal.row xs = W at *
  generalize xs.length = n at *
  simp -implicitDefEqProofs [x742, exAppendX, exAppend, elems, hc', hle, h0]
structure Round (T : List Obj) (i : Nat) (R R' : List IV) : Prop where
 cell : R[i * 5 + 2]? = (T[i]?).map fun o => o.l.iv
 len : R.length = T.length * 5
 set : ∀ o, T[i]? = some o → R.set (i * 5 + 2) (cloneL o.l).iv = R'
 len' : R'.length = T.length * 5
theorem zqh (T : List Obj) {i : Nat} (hlt : i < T.length) : Round T i (tObj.row ((T.take i).map cloneObj ++ T.drop i)) (tObj.row ((T.take (i + 1)).map cloneObj ++ T.drop (i + 1))) := by
 have hx := List.getElem?_eq_getElem hlt
 have hti : ((T.take i).map cloneObj).length = i := by rw [List.length_map, List.length_take]; omega
 have hgo : ((T.take i).map cloneObj ++ T.drop i)[i]? = some T[i] := by
  rw [List.getElem?_append_right (by omega), hti, Nat.sub_self, List.getElem?_drop, Nat.add_zero]; exact hx
 have hset := zqp _ i _ (cloneL T[i].l) hgo
 have hcell := zdd (zf4 (t := tObj) hgo) 2 (by decide)
 have hnew : ((T.take i).map cloneObj ++ T.drop i).set i { T[i] with l := cloneL T[i].l } = (T.take (i + 1)).map cloneObj ++ T.drop (i + 1) := by
  rw [List.drop_eq_getElem_cons hlt, List.set_append_right _ _ (by omega), hti, Nat.sub_self, List.set_cons_zero, List.take_add_one, hx, Option.toList_some, List.map_append, List.append_assoc]
  rfl
 rw [hnew] at hset
 have hlen : ((T.take i).map cloneObj ++ T.drop i).length = T.length := by rw [List.length_append, hti, List.length_drop]; omega
 have hlen' : ((T.take (i + 1)).map cloneObj ++ T.drop (i + 1)).length = T.length := by rw [List.length_append, List.length_map, List.length_take, List.length_drop]; omega
 refine ⟨?_, ?_, ?_, ?_⟩
 ·rw [hx]; exact hcell
 ·have := zqn tObj ((T.take i).map cloneObj ++ T.drop i)
  rw [hlen] at this; exact this
 ·intro o ho
  rw [hx] at ho
  cases ho
  exact hset
 ·have := zqn tObj ((T.take (i + 1)).map cloneObj ++ T.drop (i + 1))
  rw [hlen'] at this; exact this
set_option maxHeartbeats 4000000 in
theorem zt8 (h : code 742 = some x742) (h2 : code 740 = some x740) {T : List Obj} (hn : T.length ≤ 100000000) {i : Nat} {R R' : List IV} (hr : Round T i R R') {o : Obj} (ho : T[i]? = some o) (hb : o.l.xs.length ≤ 1000000) (c : Nat) (hc : i * 5 + 2 ≠ c) (q : Nat) (hq : i ≠ q) (hqn : q < T.length) (n : Nat) (cap : Option Nat) (W C : List IV) (hC : C.length = T.length * 5) (cp : Option Nat) (far : Bool) (cap2 : Option Nat) :
  ∃ s', den code ext (x643PL1 c) ⟨2, [(3, .osl 2 0 5 T.length cp), (8, int64 T.length), (9, int64 i)], [.rich (richRow C (q * 5 + 2) (.osl 1 0 2 n cap)), .flat W false, .rich (richRow R (q * 5 + 2) (.osl (if far = true then 3 else 1) 0 2 n cap2))] ++ if far = true then [.flat W false] else []⟩ = some (.normal, s') ∧
   s'.tidy [3, 8, 9] = ⟨2, [(3, .osl 2 0 5 T.length cp), (8, int64 T.length), (9, int64 ((i : Int) + 1))], [.rich (richRow C (q * 5 + 2) (.osl 1 0 2 n cap)), .flat W false, .rich (richRow R' (q * 5 + 2) (.osl (if far = true then 3 else 1) 0 2 n cap2))] ++ if far = true then [.flat W false] else []⟩ := by
 have hlt : i < T.length := (List.getElem?_eq_some_iff.1 ho).1
 have hlt' : (i : Int) < T.length := by omega
 have e1 : IntKind.wrap .i64 ((i : Int) + 1) = (i : Int) + 1 := wrapI64 (by omega) (by omega)
 have hcc := zct (ext := ext) h h2 o.l (by omega)
 have hcl := hr.cell
 rw [ho] at hcl
 have hsa := hr.set o ho
 have hR : i * 5 + 2 + 1 ≤ R.length := by rw [hr.len]; omega
 have hoff : i * 5 + 2 ≠ q * 5 + 2 := by omega
 have p1 := zpu
 have hrf : ∀ v, AV.refs.refsL (richRow C (q * 5 + 2) v) = v.refs := fun v => zpe (by rw [hC]; omega)
 have hrf1 : ∀ v, AV.refs.refsL (richRow R (q * 5 + 2) v) = v.refs := fun v => zpe (by rw [hr.len]; omega)
 have hrf2 : ∀ v, AV.refs.refsL (richRow R' (q * 5 + 2) v) = v.refs := fun v => zpe (by rw [hr.len']; omega)
 have hgt : ∀ v, (richRow R (q * 5 + 2) v)[i * 5 + 2]? = some (.imm o.l.iv) := fun v => zp2 (by simpa using hcl) hoff
 have hrs : ∀ v, setAll (richRow R (q * 5 + 2) v) (i * 5 + 2) [.imm (cloneL o.l).iv] = richRow R' (q * 5 + 2) v := fun v => by rw [zp9 hoff, hsa]
 have hll : ∀ v, (richRow R (q * 5 + 2) v).length = R.length := fun v => zp4 R (q * 5 + 2) v
 refine stepN ?_
 generalize T.length = N at *
 rcases hcc with ⟨c0, cx, c1, c2, c3⟩ | ⟨c0, cap3, c1, c2, c3⟩
 ·rw [c3] at hrs
  rw [c0] at c1 hgt
  cases far
  ·simp -implicitDefEqProofs [x643PL1, exStoreF, exLook, hlt, hlt', hgt, c1, c2, e1, hR, hrs, hrf, hrf1, hrf2, hll, hc, p1]
  ·simp -implicitDefEqProofs [x643PL1, exStoreF, exLook, hlt, hlt', hgt, c1, c2, e1, hR, hrs, hrf, hrf1, hrf2, hll, hc, p1]
 ·rw [c3] at hrs
  generalize tVal.row o.l.xs = W2 at *
  generalize o.l.xs.length = n2 at *
  cases far
  ·simp -implicitDefEqProofs [x643PL1, exStoreF, exLook, hlt, hlt', hgt, c1, c2, e1, hR, hrs, hrf, hrf1, hrf2, hll, hc, p1]
  ·simp -implicitDefEqProofs [x643PL1, exStoreF, exLook, hlt, hlt', hgt, c1, c2, e1, hR, hrs, hrf, hrf1, hrf2, hll, hc, p1]
end
end Go.EX


set_option maxHeartbeats 4000000
namespace Go.EX
theorem zpj (f : Nat → Option Nat) : ∀ (R : List IV), AV.ren.renL f (R.map AV.imm) = R.map AV.imm
 | [] => rfl
 | x :: r => by
  rw [List.map_cons]
  show AV.ren f (.imm x) :: AV.ren.renL f (r.map AV.imm) = _
  rw [zpj f r]
  rfl
section
variable {code : Nat → Option XFun} {ext : Calls'}
theorem zt6 (h : code 742 = some x742) (h2 : code 740 = some x740) {T : List Obj} (hn : T.length ≤ 100000000) {i : Nat} {R R' : List IV} (hr : Round T i R R') {o : Obj} (ho : T[i]? = some o) (hz : isNilIV o.l.iv = false) (hb : o.l.xs.length ≤ 1000000) (c : Nat) (hc : i * 5 + 2 ≠ c) (cap : Option Nat) (C : List IV) (hC : C.length = T.length * 5) (cp : Option Nat) :
  ∃ s', den code ext (x643PL1 c) ⟨2, [(3, .osl 2 0 5 T.length cp), (8, int64 T.length), (9, int64 i)], [.rich (richRow C (i * 5 + 2) (.osl 1 0 2 o.l.xs.length cap)), .flat (tVal.row o.l.xs) false, .rich (richRow R (i * 5 + 2) (.osl 1 0 2 o.l.xs.length cap))]⟩ = some (.normal, s') ∧
   s'.tidy [3, 8, 9] = ⟨2, [(3, .osl 2 0 5 T.length cp), (8, int64 T.length), (9, int64 ((i : Int) + 1))], [.rich (richRow C (i * 5 + 2) (.osl 1 0 2 o.l.xs.length cap)), .flat (tVal.row o.l.xs) false, .rich (R'.map .imm)]⟩ := by
 have hlt : i < T.length := (List.getElem?_eq_some_iff.1 ho).1
 have hlt' : (i : Int) < T.length := by omega
 have e1 : IntKind.wrap .i64 ((i : Int) + 1) = (i : Int) + 1 := wrapI64 (by omega) (by omega)
 obtain ⟨cc, c1, c2⟩ := zm6 (ext := ext) h h2 o.l.xs (by omega) cap
 have c3 : (cloneL o.l).iv = .slice (tVal.row o.l.xs) 0 o.l.xs.length (some o.l.xs.length) := by
  unfold cloneL
  rw [if_neg (by simp [hz])]
 have hsa := hr.set o ho
 have hR : i * 5 + 2 + 1 ≤ R.length := by rw [hr.len]; omega
 have p1 := zpu
 have hrf : ∀ v, AV.refs.refsL (richRow C (i * 5 + 2) v) = v.refs := fun v => zpe (by rw [hC]; omega)
 have hrf1 : ∀ v, AV.refs.refsL (richRow R (i * 5 + 2) v) = v.refs := fun v => zpe (by rw [hr.len]; omega)
 have hgt : ∀ v, (richRow R (i * 5 + 2) v)[i * 5 + 2]? = some v := fun v => zp1 (by omega)
 have hrs : ∀ v, setAll (richRow R (i * 5 + 2) v) (i * 5 + 2) [.imm (cloneL o.l).iv] = R'.map .imm := fun v => by rw [zp3, hsa]
 have hll : ∀ v, (richRow R (i * 5 + 2) v).length = R.length := fun v => zp4 R (i * 5 + 2) v
 have hri := zpa R'
 have p2 := zpj
 refine stepN ?_
 rw [c3] at hrs
 generalize T.length = N at *
 generalize tVal.row o.l.xs = W at *
 generalize o.l.xs.length = n at *
 simp -implicitDefEqProofs [x643PL1, exStoreF, exLook, hlt, hlt', hgt, c1, c2, e1, hR, hrs, hrf, hrf1, hll, hc, p1, p2, hri]
theorem zt7 (h : code 742 = some x742) (h2 : code 740 = some x740) {T : List Obj} (hn : T.length ≤ 100000000) {i : Nat} {R R' : List IV} (hr : Round T i R R') {o : Obj} (ho : T[i]? = some o) (hb : o.l.xs.length ≤ 1000000) (cap : Option Nat) (C : List IV) (hC : C.length = T.length * 5) (cp : Option Nat) :
  ∃ s', den code ext (x643PL1 (i * 5 + 2)) ⟨2, [(3, .osl 2 0 5 T.length cp), (8, int64 T.length), (9, int64 i)], [.rich (richRow C (i * 5 + 2) (.osl 1 0 2 o.l.xs.length cap)), .flat (tVal.row o.l.xs) false, .rich (richRow R (i * 5 + 2) (.osl 1 0 2 o.l.xs.length cap))]⟩ = some (.normal, s') ∧
   s'.tidy [3, 8, 9] = ⟨2, [(3, .osl 2 0 5 T.length cp), (8, int64 T.length), (9, int64 ((i : Int) + 1))], [.rich (richRow C (i * 5 + 2) (.osl 1 0 2 o.l.xs.length cap)), .flat (tVal.row o.l.xs) false, .rich (richRow R' (i * 5 + 2) (.osl 3 0 2 o.l.xs.length (some o.l.xs.length))), .flat (tVal.row o.l.xs) false]⟩ := by
 have hlt : i < T.length := (List.getElem?_eq_some_iff.1 ho).1
 have hlt' : (i : Int) < T.length := by omega
 have e1 : IntKind.wrap .i64 ((i : Int) + 1) = (i : Int) + 1 := wrapI64 (by omega) (by omega)
 obtain ⟨cc, c1, c2⟩ := zm6 (ext := ext) h h2 o.l.xs (by omega) cap
 have hR : i * 5 + 2 + 1 ≤ R.length := by rw [hr.len]; omega
 have p1 := zpu
 have hrr : ∀ v, richRow R (i * 5 + 2) v = richRow R' (i * 5 + 2) v := fun v => by
  have := hr.set o ho
  rw [← this]
  unfold richRow
  rw [List.map_set, List.set_set]
 have hrf : ∀ v, AV.refs.refsL (richRow C (i * 5 + 2) v) = v.refs := fun v => zpe (by rw [hC]; omega)
 have hrf1 : ∀ v, AV.refs.refsL (richRow R (i * 5 + 2) v) = v.refs := fun v => zpe (by rw [hr.len]; omega)
 have hgt : ∀ v, (richRow R (i * 5 + 2) v)[i * 5 + 2]? = some v := fun v => zp1 (by omega)
 have hrs : ∀ v w, setAll (richRow R (i * 5 + 2) v) (i * 5 + 2) [w] = richRow R (i * 5 + 2) w := fun v w => zp6 R _ v w
 have hll : ∀ v, (richRow R (i * 5 + 2) v).length = R.length := fun v => zp4 R (i * 5 + 2) v
 refine stepN ?_
 rw [← hrr]
 generalize T.length = N at *
 generalize tVal.row o.l.xs = W at *
 generalize o.l.xs.length = n at *
 simp -implicitDefEqProofs [x643PL1, exStoreF, exLook, hlt, hlt', hgt, c1, c2, e1, hR, hrs, hrf, hrf1, hll, p1]
theorem ztz {idx : Nat} (c : TwinCode code idx) {T : List Obj} {o : Obj} (hi : T.length < idx) (hT : ∀ o ∈ T, o.l.xs.length ≤ 1000000) (hn : T.length ≤ 10000000) (hz : isNilIV o.l.iv = false) (hb : o.l.xs.length ≤ 1000000) (cap cap0 : Option Nat) :
  callW code ext 643 [.osl 0 0 5 (T.length + 1) cap0] [.rich (richRow (tObj.row (T ++ [o])) (T.length * 5 + 2) (.osl 1 0 2 o.l.xs.length cap)), .flat (tVal.row o.l.xs) false] =
   some (.osl 2 0 5 (T.length + 1) (some (T.length + 1)), [.rich (richRow (tObj.row (T ++ [o])) (T.length * 5 + 2) (.osl 1 0 2 o.l.xs.length cap)), .flat (tVal.row o.l.xs) false, .rich ((tObj.row ((T ++ [o]).map cloneObj)).map .imm)]) := by
 have hl : (T ++ [o]).length = T.length + 1 := by simp
 have hrl : (tObj.row (T ++ [o])).length = (T.length + 1) * 5 := by have := zqn tObj (T ++ [o]); rw [hl] at this; exact this
 have g1 := zcs (ext := ext) c.c743 (T := T ++ [o]) (by omega) (by omega) cap0 (T.length * 5 + 2) (by omega) o.l.xs.length cap (tVal.row o.l.xs)
 rw [hl] at g1
 have loop : ∃ e s', den code ext (.loop [3, 8, 9] (x643PL1 (idx * 5 + 2))) ⟨2, [(3, .osl 2 0 5 (T.length + 1) none), (8, int64 (T.length + 1 : Nat)), (9, int64 0)], [.rich (richRow (tObj.row (T ++ [o])) (T.length * 5 + 2) (.osl 1 0 2 o.l.xs.length cap)), .flat (tVal.row o.l.xs) false, .rich (richRow (tObj.row (T ++ [o])) (T.length * 5 + 2) (.osl 1 0 2 o.l.xs.length cap))]⟩ = some (e, s') ∧ e ≠ .normal ∧
   (e = .exit 0 ∧ s' = ⟨2, [(3, .osl 2 0 5 (T.length + 1) none), (8, int64 (T.length + 1 : Nat)), (9, int64 (T.length + 1 : Nat)), (10, avb false)], [.rich (richRow (tObj.row (T ++ [o])) (T.length * 5 + 2) (.osl 1 0 2 o.l.xs.length cap)), .flat (tVal.row o.l.xs) false, .rich ((tObj.row ((T ++ [o]).map cloneObj)).map .imm)]⟩) := by
  refine zjt (fun n s => ∃ i, i + n = T.length + 1 ∧ s.tidy [3, 8, 9] = ⟨2, [(3, .osl 2 0 5 (T.length + 1) none), (8, int64 (T.length + 1 : Nat)), (9, int64 (i : Nat))], [.rich (richRow (tObj.row (T ++ [o])) (T.length * 5 + 2) (.osl 1 0 2 o.l.xs.length cap)), .flat (tVal.row o.l.xs) false, if i ≤ T.length then .rich (richRow (tObj.row (((T ++ [o]).take i).map cloneObj ++ (T ++ [o]).drop i)) (T.length * 5 + 2) (.osl 1 0 2 o.l.xs.length cap)) else .rich ((tObj.row ((T ++ [o]).map cloneObj)).map .imm)]⟩) _ ?_ (T.length + 1) _ ⟨0, by simp, by
   have hrf := zpe (R := tObj.row (T ++ [o])) (p := T.length * 5 + 2) (v := .osl 1 0 2 o.l.xs.length cap) (by omega)
   have p1 := zpu
   rw [List.take_zero, List.map_nil, List.nil_append, List.drop_zero, if_pos (Nat.zero_le _)]
   generalize tObj.row (T ++ [o]) = R at *
   generalize tVal.row o.l.xs = W
   generalize o.l.xs.length = n at *
   generalize hN1 : T.length + 1 = N1 at *
   generalize T.length = N at *
   simp -implicitDefEqProofs [hrf, p1]⟩
  rintro n s ⟨i, hi2, hst⟩
  rw [hst]
  by_cases hlt : i < T.length + 1
  ·have hrd := zqh (T ++ [o]) (i := i) (by omega)
   rw [if_pos (by omega)]
   by_cases hit : i = T.length
   ·subst hit
    have hlo : (T ++ [o])[T.length]? = some o := by simp
    obtain ⟨s', g1, g2⟩ := zt6 (ext := ext) c.c742 c.c740 (by omega) hrd hlo hz hb (idx * 5 + 2) (by omega) cap (tObj.row (T ++ [o])) (by rw [hl]; exact hrl) none
    have ht : (T ++ [o]).take (T.length + 1) = T ++ [o] := List.take_of_length_le (by omega)
    have hd : (T ++ [o]).drop (T.length + 1) = [] := List.drop_eq_nil_of_le (by omega)
    rw [ht, hd, List.append_nil, hl] at g2
    rw [hl] at g1
    exact ⟨.normal, s', g1, .inl ⟨rfl, n - 1, by omega, T.length + 1, by omega, by rw [g2, if_neg (by omega), Int.natCast_add]; rfl⟩⟩
   ·obtain ⟨u, hu⟩ : ∃ u, T[i]? = some u := ⟨_, List.getElem?_eq_getElem (by omega)⟩
    have hlo : (T ++ [o])[i]? = some u := by rw [List.getElem?_append_left (by omega)]; exact hu
    obtain ⟨s', g1, g2⟩ := zt8 (ext := ext) c.c742 c.c740 (by omega) hrd hlo (hT u (List.mem_of_getElem? hu)) (idx * 5 + 2) (by omega) T.length hit (by omega) o.l.xs.length cap (tVal.row o.l.xs) (tObj.row (T ++ [o])) (by rw [hl]; exact hrl) none false cap
    simp only [Bool.false_eq_true, if_false, List.append_nil] at g1 g2
    rw [hl] at g1 g2
    exact ⟨.normal, s', g1, .inl ⟨rfl, n - 1, by omega, i + 1, by omega, by rw [g2, if_pos (by omega), Int.natCast_add]; rfl⟩⟩
  ·have : i = T.length + 1 := by omega
   subst this
   rw [if_neg (by omega)]
   refine ⟨.exit 0, _, ?_, .inr ⟨by simp, rfl, rfl⟩⟩
   have hrf := zpe (R := tObj.row (T ++ [o])) (p := T.length * 5 + 2) (v := .osl 1 0 2 o.l.xs.length cap) (by omega)
   have p1 := zpu
   have hri := zpa (tObj.row ((T ++ [o]).map cloneObj))
   generalize tObj.row ((T ++ [o]).map cloneObj) = R2 at *
   generalize tObj.row (T ++ [o]) = R at *
   generalize tVal.row o.l.xs = W
   generalize o.l.xs.length = n at *
   generalize hN1 : T.length + 1 = N1 at *
   generalize T.length = N at *
   simp -implicitDefEqProofs [x643PL1]
 obtain ⟨e, s', l1, _, rfl, rfl⟩ := loop
 have g2 : callW code ext 741 [.osl 0 0 5 (T.length + 1) none] [.rich ((tObj.row ((T ++ [o]).map cloneObj)).map .imm)] = some (.osl 0 0 5 (T.length + 1) (some (T.length + 1)), [.rich ((tObj.row ((T ++ [o]).map cloneObj)).map .imm)]) := by
  rw [zbs code ext c.c741]
  generalize tObj.row ((T ++ [o]).map cloneObj) = R2 at *
  generalize T.length + 1 = N1 at *
  simp -implicitDefEqProofs [x741, exSlice3, zpa R2]
 have hrf := zpe (R := tObj.row (T ++ [o])) (p := T.length * 5 + 2) (v := .osl 1 0 2 o.l.xs.length cap) (by omega)
 have p1 := zpu
 have hri := zpa (tObj.row ((T ++ [o]).map cloneObj))
 have p2 := zpj
 rw [zbs code ext c.c643]
 unfold x643P
 generalize x643PL1 (idx * 5 + 2) = L at *
 generalize tObj.row ((T ++ [o]).map cloneObj) = R2 at *
 generalize tObj.row (T ++ [o]) = R at *
 generalize tVal.row o.l.xs = W at *
 generalize o.l.xs.length = n at *
 generalize hN1 : T.length + 1 = N1 at *
 generalize T.length = N at *
 simp -implicitDefEqProofs [g1, g2, l1, hrf, p1, p2, hri]
end
end Go.EX


set_option maxHeartbeats 4000000
namespace Go.EX
theorem zgf (m : Mem) (k : Nat) : ∀ R : List IV, (R.map AV.imm).mapM (frzV m k) = some R
 | [] => rfl
 | x :: r => by
  rw [List.map_cons, List.mapM_cons, zgk, zgf m k r]
  rfl
theorem zgn (m : Mem) (k : Nat) {id n : Nat} {cap : Option Nat} {W : List IV} (hm : m[id]? = some (.flat W false)) : ∀ (R : List IV) (p : Nat), R[p]? = some (.slice W 0 n cap) → (richRow R p (.osl id 0 2 n cap)).mapM (frzV m (k + 1)) = some R
 | [], p, h => by simp at h
 | x :: r, 0, h => by
  simp only [List.getElem?_cons_zero, Option.some.injEq] at h
  subst h
  unfold richRow
  rw [List.map_cons, List.set_cons_zero, List.mapM_cons, zgf]
  simp only [frzV, hm]
  rfl
 | x :: r, p + 1, h => by
  have ih := zgn m k hm r p (by simpa using h)
  unfold richRow at ih ⊢
  rw [List.map_cons, List.set_cons_succ, List.mapM_cons, zgk, ih]
  rfl
theorem zgo (m : Mem) {id n : Nat} {cap : Option Nat} {W R : List IV} {p : Nat} (h : R[p]? = some (.slice W 0 n cap)) (hm : m[id]? = some (.flat W false)) : (richRow R p (.osl id 0 2 n cap)).mapM (frzV m 19) = some R := zgn m 18 hm R p h
section
variable {code : Nat → Option XFun} {ext : Calls'}
theorem zdw {idx : Nat} (c : DoCode code idx) {nl : Bool} {sv : IV} {S : List Obj} (hs : StoreN nl sv S idx) {lv : IV} {xs : List Val} (hr : Reads tVal lv xs) (hl : xs.length ≤ 1000) (hf : FineN code ext sv xs) (op n0 k n : Int) (t : ByteArray)
  (hd : callW code ext 206 [.optr 0 0, .agg [.imm (.val (.int .u8 op)), int64 n0, .imm lv, nilS]] (sM nl (S.map cloneObj)) = some (didP k n t, sM nl (S.map cloneObj))) :
  callW code ext 640 [.imm sv, .imm (.val (.int .u8 op)), int64 n0, .imm lv] [] =
   some (.agg [if nl = true then nilS else .osl 0 0 5 S.length (some S.length), .imm (.val (.int .u8 k)), int64 n, strV t, int64 0], if nl = true then [] else [.flat (tObj.row ((S.map cloneObj).map cloneObj)) false]) := by
 have ha := zap (ext := ext) c sv hr hl hf
 cases nl with
 | true =>
  obtain ⟨rfl, rfl⟩ := hs.nil rfl
  have h1 := zt3 (ext := ext) c.toTwinCode
  have h2 := zsi (ext := ext) c.c642
  have h3 := za6 (ext := ext) c.c639
  clear hf
  rw [zbs code ext c.c640]
  unfold sM at hd
  simp only [if_true] at hd ⊢
  simp -implicitDefEqProofs [x640N, exLook, h1, h2, h3, ha, hd]
 | false =>
  have hz := hs.some rfl
  have hlen := hs.len
  have h1 := zt4 (ext := ext) c.toTwinCode hs.rd hz hs.l (by omega)
  rw [ztp hs.none] at h1
  have hml : (S.map cloneObj).length = S.length := List.length_map ..
  have h2 := zt0 (ext := ext) c.toTwinCode (T := S.map cloneObj) (by rw [hml]; have := hs.lt; omega) (zcq hs.l) (by rw [hml]; omega) (some S.length)
  have h3 := zsk (ext := ext) (T := S.map cloneObj) c.c642 c.c578 (some S.length) (zdh tObj _) (by rw [hml]; omega)
  have h4 := za8 (ext := ext) (T := S.map cloneObj) (B := []) c.c639 c.c578 (some S.length) (by rw [List.append_nil]; exact zdh tObj _) (by rw [List.append_nil, hml]; omega)
  rw [List.append_nil, show askSum [] = 0 from rfl] at h4
  unfold sizeV sizeM at h3
  unfold wasV at h4
  rw [hml] at h2 h3 h4
  have hW := zsf (S.map cloneObj)
  clear hf
  rw [zbs code ext c.c640]
  unfold sM at hd
  rw [hml] at hd
  simp only [Bool.false_eq_true, if_false] at hd ⊢
  generalize sizeRow (S.map cloneObj) = W at *
  generalize tObj.row ((S.map cloneObj).map cloneObj) = R2 at *
  generalize tObj.row (S.map cloneObj) = R1 at *
  by_cases h0 : S.length = 0
  ·rw [if_pos h0, if_pos h0] at h3
   rw [if_pos h0] at h4
   generalize S.length = N at *
   simp -implicitDefEqProofs [x640N, exLook, h1, h2, h3, h4, ha, hd]
  ·rw [if_neg h0, if_neg h0] at h3
   rw [if_neg h0] at h4
   generalize S.length = N at *
   simp -implicitDefEqProofs [-IV.plain, x640N, exLook, h1, h2, h3, h4, ha, hd, hW]
theorem zdy {idx : Nat} (c : DoCode code idx) {nl : Bool} {sv : IV} {S : List Obj} (hs : StoreN nl sv S idx) {lv : IV} {xs : List Val} (hr : Reads tVal lv xs) (hl : xs.length ≤ 1000) (hf : FineN code ext sv xs) (op n0 k n : Int) (t : ByteArray) {o : Obj} (hz1 : isNilIV o.l.iv = false) (hb : o.l.xs.length ≤ 1000000) (w : Int) (cap : Option Nat) (hiv : o.l.iv = .slice (tVal.row o.l.xs) 0 o.l.xs.length cap)
  (hd : callW code ext 206 [.optr 0 0, .agg [.imm (.val (.int .u8 op)), int64 n0, .imm lv, nilS]] (sM nl (S.map cloneObj)) = some (didP k n t, sKP nl (S.map cloneObj) o (tVal.row o.l.xs) o.l.xs.length cap w)) :
  callW code ext 640 [.imm sv, .imm (.val (.int .u8 op)), int64 n0, .imm lv] [] =
   some (.agg [.osl 0 0 5 (S.length + 1) (some (S.length + 1)), .imm (.val (.int .u8 k)), int64 n, strV t, int64 (askSum [o])], [.rich ((tObj.row ((S.map cloneObj ++ [o]).map cloneObj)).map .imm)]) := by
 have ha := zap (ext := ext) c sv hr hl hf
 have p1 := zpu
 have p2 := zpj
 cases nl with
 | true =>
  obtain ⟨rfl, rfl⟩ := hs.nil rfl
  have h1 := zt3 (ext := ext) c.toTwinCode
  have h2 := zsi (ext := ext) c.c642
  have h4 := za8 (ext := ext) (T := []) (B := [o]) c.c639 c.c578 none (C := tObj.row [o]) (zdh tObj [o]) (by simp)
  have h3 := ztz (ext := ext) c.toTwinCode (T := []) (o := o) (by have := hs.lt; simp at this ⊢; omega) (by simp) (by simp) hz1 hb cap none
  have hrf : ∀ v : AV, AV.refs.refsL (richRow (tObj.row [o]) 2 v) = v.refs := fun v => zpe (by rw [zqn]; simp [tObj])
  have hri := zpa (tObj.row ([o].map cloneObj))
  have hfz := fun m id (hm : m[id]? = some (AObj.flat (tVal.row o.l.xs) false)) => zgo m (id := id) (n := o.l.xs.length) (cap := cap) (R := tObj.row [o]) (p := 2) (by rw [← hiv]; exact zqm (T := [o]) (q := 0) rfl) hm
  simp only [wasV, List.length_nil, List.length_cons, if_true, List.nil_append, Nat.zero_add, Nat.zero_mul, Nat.reduceAdd] at h3 h4
  clear hf
  rw [zbs code ext c.c640]
  unfold sM sKP at hd
  simp only [if_true, List.map_nil, List.nil_append, List.length_nil, Nat.zero_add] at hd ⊢
  generalize tVal.row o.l.xs = L at *
  generalize o.l.xs.length = m at *
  generalize tObj.row (List.map cloneObj [o]) = R2 at *
  generalize tObj.row [o] = R1 at *
  generalize askSum [o] = ask at *
  simp -implicitDefEqProofs [x640N, exLook, h1, h2, h3, h4, ha, hd, hrf, hri, p1, p2, hfz]
 | false =>
  have hz := hs.some rfl
  have hlen := hs.len
  have h1 := zt4 (ext := ext) c.toTwinCode hs.rd hz hs.l (by omega)
  rw [ztp hs.none] at h1
  have hml : (S.map cloneObj).length = S.length := List.length_map ..
  have hml1 : (S.map cloneObj ++ [o]).length = S.length + 1 := by rw [List.length_append, hml]; rfl
  have h2 := ztz (ext := ext) c.toTwinCode (T := S.map cloneObj) (o := o) (by rw [hml]; have := hs.lt; omega) (zcq hs.l) (by rw [hml]; omega) hz1 hb cap none
  have h3 := zsk (ext := ext) (T := S.map cloneObj) c.c642 c.c578 (some S.length) (zdh tObj _) (by rw [hml]; omega)
  have h4 := za8 (ext := ext) (T := S.map cloneObj) (B := [o]) c.c639 c.c578 none (zdh tObj _) (by rw [hml1]; omega)
  have hrf : ∀ v : AV, AV.refs.refsL (richRow (tObj.row (S.map cloneObj ++ [o])) (S.length * 5 + 2) v) = v.refs := fun v => zpe (by rw [zqn, hml1]; simp [tObj]; omega)
  have hri := zpa (tObj.row ((S.map cloneObj ++ [o]).map cloneObj))
  have hfz := fun m id (hm : m[id]? = some (AObj.flat (tVal.row o.l.xs) false)) => zgo m (id := id) (n := o.l.xs.length) (cap := cap) (R := tObj.row (S.map cloneObj ++ [o])) (p := S.length * 5 + 2) (by rw [← hiv]; exact zqm (by rw [List.getElem?_append_right (by omega), hml, Nat.sub_self]; rfl)) hm
  unfold sizeV sizeM at h3
  unfold wasV at h4
  rw [hml1] at h4
  rw [hml] at h2 h3 h4
  have hW := zsf (S.map cloneObj)
  clear hf
  rw [zbs code ext c.c640]
  unfold sM sKP at hd
  rw [hml] at hd
  simp only [Bool.false_eq_true, if_false] at hd ⊢
  generalize sizeRow (S.map cloneObj) = W at *
  generalize tObj.row ((S.map cloneObj ++ [o]).map cloneObj) = R3 at *
  generalize tObj.row (S.map cloneObj ++ [o]) = R2 at *
  generalize tObj.row (S.map cloneObj) = R1 at *
  generalize tVal.row o.l.xs = L at *
  generalize o.l.xs.length = m at *
  generalize askSum [o] = ask at *
  by_cases h0 : S.length = 0
  ·rw [if_pos h0, if_pos h0] at h3
   rw [if_pos h0] at h4
   generalize hN1 : S.length + 1 = N1 at *
   generalize S.length = N at *
   simp -implicitDefEqProofs [x640N, exLook, h1, h2, h3, h4, ha, hd, hrf, hri, p1, p2, hfz]
  ·rw [if_neg h0, if_neg h0] at h3
   rw [if_neg h0] at h4
   generalize hN1 : S.length + 1 = N1 at *
   generalize S.length = N at *
   simp -implicitDefEqProofs [-IV.plain, x640N, exLook, h1, h2, h3, h4, ha, hd, hW, hrf, hri, p1, p2, hfz]
end
end Go.EX


namespace Go.EX
def Ends (base : Nat) (A : AV) (M : Mem) (x : IV) : Prop :=
 (A = nilS ∧ M = [] ∧ x = .val (.slice none 0 0)) ∨ ∃ (N : Nat) (R : List IV), A = .osl base 0 5 N (some N) ∧ (M = [.flat R false] ∨ M = [.rich (R.map .imm)]) ∧ x = .slice R 0 N (some N)
abbrev outA (x : IV) (k n : Int) (t : ByteArray) (w : Int) : AV := .agg [.imm x, .imm (.val (.int .u8 k)), int64 n, strV t, int64 w]
section
variable {code : Nat → Option XFun} {ext : Calls'}
theorem zbd (h : code 627 = some x627) (sv : IV) (a b : Val) {A : AV} {M : Mem} {x : IV} (he : Ends 1 A M x) (k n : Int) (t : ByteArray) (w : Int)
  (hd : callW code ext 640 [.imm sv, .imm (.val (.int .u8 14)), int64 1, .osl 0 0 2 2 (some 2)] [.flat (tVal.row [a, b]) false] = some (.agg [A, .imm (.val (.int .u8 k)), int64 n, strV t, int64 w], [.flat (tVal.row [a, b]) false] ++ M)) (s : St) :
  exView (callW code ext) s 627 [.imm sv, .imm (.val (.int .u8 1)), .agg [.imm (.val (.int .u8 a.k)), int64 a.n], .agg [.imm (.val (.int .u8 b.k)), int64 b.n]] = some (outA x k n t w, s) := by
 have hrow : tVal.row [a, b] = [.val (.int .u8 a.k), .val (.int .i64 a.n), .val (.int .u8 b.k), .val (.int .i64 b.n)] := rfl
 have w1 : IntKind.wrap .i64 (1 : Int) = 1 := rfl
 have p2 := zpj
 have p3 := zgf
 rw [hrow] at hd
 rcases he with ⟨rfl, rfl, rfl⟩ | ⟨N, R, rfl, rfl | rfl, rfl⟩
 ·have h1 : callW code ext 627 [.imm sv, .imm (.val (.int .u8 1)), .agg [.imm (.val (.int .u8 a.k)), int64 a.n], .agg [.imm (.val (.int .u8 b.k)), int64 b.n]] [] = some (outA (.val (.slice none 0 0)) k n t w, []) := by
   rw [zbs code ext h]
   simp -implicitDefEqProofs [x627, hd, w1]
  simp -implicitDefEqProofs [h1]
 ·have h1 : callW code ext 627 [.imm sv, .imm (.val (.int .u8 1)), .agg [.imm (.val (.int .u8 a.k)), int64 a.n], .agg [.imm (.val (.int .u8 b.k)), int64 b.n]] [] = some (.agg [.osl 0 0 5 N (some N), .imm (.val (.int .u8 k)), int64 n, strV t, int64 w], [.flat R false]) := by
   rw [zbs code ext h]
   simp -implicitDefEqProofs [x627, hd, w1]
  simp -implicitDefEqProofs [h1]
 ·have hri := zpa R
  have h1 : callW code ext 627 [.imm sv, .imm (.val (.int .u8 1)), .agg [.imm (.val (.int .u8 a.k)), int64 a.n], .agg [.imm (.val (.int .u8 b.k)), int64 b.n]] [] = some (.agg [.osl 0 0 5 N (some N), .imm (.val (.int .u8 k)), int64 n, strV t, int64 w], [.rich (R.map .imm)]) := by
   rw [zbs code ext h]
   simp -implicitDefEqProofs [x627, hd, w1, hri, p2]
  simp -implicitDefEqProofs [h1, p3]
theorem zgv (h : code 630 = some x630) (sv : IV) (a b : Val) {A : AV} {M : Mem} {x : IV} (he : Ends 1 A M x) (k n : Int) (t : ByteArray) (w : Int)
  (hd : callW code ext 640 [.imm sv, .imm (.val (.int .u8 24)), int64 0, .osl 0 0 2 2 (some 2)] [.flat (tVal.row [a, b]) false] = some (.agg [A, .imm (.val (.int .u8 k)), int64 n, strV t, int64 w], [.flat (tVal.row [a, b]) false] ++ M)) (s : St) :
  exView (callW code ext) s 630 [.imm sv, .agg [.imm (.val (.int .u8 a.k)), int64 a.n], .agg [.imm (.val (.int .u8 b.k)), int64 b.n]] = some (outA x k n t w, s) := by
 have hrow : tVal.row [a, b] = [.val (.int .u8 a.k), .val (.int .i64 a.n), .val (.int .u8 b.k), .val (.int .i64 b.n)] := rfl
 have p2 := zpj
 have p3 := zgf
 rw [hrow] at hd
 rcases he with ⟨rfl, rfl, rfl⟩ | ⟨N, R, rfl, rfl | rfl, rfl⟩
 ·have h1 : callW code ext 630 [.imm sv, .agg [.imm (.val (.int .u8 a.k)), int64 a.n], .agg [.imm (.val (.int .u8 b.k)), int64 b.n]] [] = some (outA (.val (.slice none 0 0)) k n t w, []) := by
   rw [zbs code ext h]
   simp -implicitDefEqProofs [x630, hd]
  simp -implicitDefEqProofs [h1]
 ·have h1 : callW code ext 630 [.imm sv, .agg [.imm (.val (.int .u8 a.k)), int64 a.n], .agg [.imm (.val (.int .u8 b.k)), int64 b.n]] [] = some (.agg [.osl 0 0 5 N (some N), .imm (.val (.int .u8 k)), int64 n, strV t, int64 w], [.flat R false]) := by
   rw [zbs code ext h]
   simp -implicitDefEqProofs [x630, hd]
  simp -implicitDefEqProofs [h1]
 ·have hri := zpa R
  have h1 : callW code ext 630 [.imm sv, .agg [.imm (.val (.int .u8 a.k)), int64 a.n], .agg [.imm (.val (.int .u8 b.k)), int64 b.n]] [] = some (.agg [.osl 0 0 5 N (some N), .imm (.val (.int .u8 k)), int64 n, strV t, int64 w], [.rich (R.map .imm)]) := by
   rw [zbs code ext h]
   simp -implicitDefEqProofs [x630, hd, hri, p2]
  simp -implicitDefEqProofs [h1, p3]
theorem zsa (h : code 637 = some x637) (sv : IV) (a : Val) {A : AV} {M : Mem} {x : IV} (he : Ends 1 A M x) (k n : Int) (t : ByteArray) (w : Int)
  (hd : callW code ext 640 [.imm sv, .imm (.val (.int .u8 18)), int64 0, .osl 0 0 2 1 (some 1)] [.flat (tVal.row [a]) false] = some (.agg [A, .imm (.val (.int .u8 k)), int64 n, strV t, int64 w], [.flat (tVal.row [a]) false] ++ M)) (s : St) :
  exView (callW code ext) s 637 [.imm sv, .agg [.imm (.val (.int .u8 a.k)), int64 a.n]] = some (outA x k n t w, s) := by
 have hrow : tVal.row [a] = [.val (.int .u8 a.k), .val (.int .i64 a.n)] := rfl
 have p2 := zpj
 have p3 := zgf
 rw [hrow] at hd
 rcases he with ⟨rfl, rfl, rfl⟩ | ⟨N, R, rfl, rfl | rfl, rfl⟩
 ·have h1 : callW code ext 637 [.imm sv, .agg [.imm (.val (.int .u8 a.k)), int64 a.n]] [] = some (outA (.val (.slice none 0 0)) k n t w, []) := by
   rw [zbs code ext h]
   simp -implicitDefEqProofs [x637, hd]
  simp -implicitDefEqProofs [h1]
 ·have h1 : callW code ext 637 [.imm sv, .agg [.imm (.val (.int .u8 a.k)), int64 a.n]] [] = some (.agg [.osl 0 0 5 N (some N), .imm (.val (.int .u8 k)), int64 n, strV t, int64 w], [.flat R false]) := by
   rw [zbs code ext h]
   simp -implicitDefEqProofs [x637, hd]
  simp -implicitDefEqProofs [h1]
 ·have hri := zpa R
  have h1 : callW code ext 637 [.imm sv, .agg [.imm (.val (.int .u8 a.k)), int64 a.n]] [] = some (.agg [.osl 0 0 5 N (some N), .imm (.val (.int .u8 k)), int64 n, strV t, int64 w], [.rich (R.map .imm)]) := by
   rw [zbs code ext h]
   simp -implicitDefEqProofs [x637, hd, hri, p2]
  simp -implicitDefEqProofs [h1, p3]
theorem zjg (h : code 632 = some x632) (sv lv : IV) {A : AV} {M : Mem} {x : IV} (he : Ends 0 A M x) (k n : Int) (t : ByteArray) (w : Int)
  (hd : callW code ext 640 [.imm sv, .imm (.val (.int .u8 22)), int64 0, .imm lv] [] = some (.agg [A, .imm (.val (.int .u8 k)), int64 n, strV t, int64 w], M)) :
  (callW code ext 632 [.imm sv, .imm lv] []).bind (fun r => (if r.1.plain then some r.1 else frz r.2 r.1)) = some (outA x k n t w) := by
 have p2 := zpj
 have p3 := zgf
 rcases he with ⟨rfl, rfl, rfl⟩ | ⟨N, R, rfl, rfl | rfl, rfl⟩
 ·have h1 : callW code ext 632 [.imm sv, .imm lv] [] = some (outA (.val (.slice none 0 0)) k n t w, []) := by
   rw [zbs code ext h]
   simp -implicitDefEqProofs [x632, hd]
  simp -implicitDefEqProofs [h1]
 ·have h1 : callW code ext 632 [.imm sv, .imm lv] [] = some (.agg [.osl 0 0 5 N (some N), .imm (.val (.int .u8 k)), int64 n, strV t, int64 w], [.flat R false]) := by
   rw [zbs code ext h]
   simp -implicitDefEqProofs [x632, hd]
  simp -implicitDefEqProofs [h1]
 ·have hri := zpa R
  have h1 : callW code ext 632 [.imm sv, .imm lv] [] = some (.agg [.osl 0 0 5 N (some N), .imm (.val (.int .u8 k)), int64 n, strV t, int64 w], [.rich (R.map .imm)]) := by
   rw [zbs code ext h]
   simp -implicitDefEqProofs [x632, hd, hri, p2]
  simp -implicitDefEqProofs [h1, p3]
theorem zj3 (h : code 633 = some x633) (sv lv : IV) {A : AV} {M : Mem} {x : IV} (he : Ends 0 A M x) (k n : Int) (t : ByteArray) (w : Int)
  (hd : callW code ext 640 [.imm sv, .imm (.val (.int .u8 23)), int64 0, .imm lv] [] = some (.agg [A, .imm (.val (.int .u8 k)), int64 n, strV t, int64 w], M)) :
  (callW code ext 633 [.imm sv, .imm lv] []).bind (fun r => (if r.1.plain then some r.1 else frz r.2 r.1)) = some (outA x k n t w) := by
 have p2 := zpj
 have p3 := zgf
 rcases he with ⟨rfl, rfl, rfl⟩ | ⟨N, R, rfl, rfl | rfl, rfl⟩
 ·have h1 : callW code ext 633 [.imm sv, .imm lv] [] = some (outA (.val (.slice none 0 0)) k n t w, []) := by
   rw [zbs code ext h]
   simp -implicitDefEqProofs [x633, hd]
  simp -implicitDefEqProofs [h1]
 ·have h1 : callW code ext 633 [.imm sv, .imm lv] [] = some (.agg [.osl 0 0 5 N (some N), .imm (.val (.int .u8 k)), int64 n, strV t, int64 w], [.flat R false]) := by
   rw [zbs code ext h]
   simp -implicitDefEqProofs [x633, hd]
  simp -implicitDefEqProofs [h1]
 ·have hri := zpa R
  have h1 : callW code ext 633 [.imm sv, .imm lv] [] = some (.agg [.osl 0 0 5 N (some N), .imm (.val (.int .u8 k)), int64 n, strV t, int64 w], [.rich (R.map .imm)]) := by
   rw [zbs code ext h]
   simp -implicitDefEqProofs [x633, hd, hri, p2]
  simp -implicitDefEqProofs [h1, p3]
end
end Go.EX


namespace Go.EX
def rM (T : List Obj) (q : Nat) (W : List IV) (n : Nat) (cap : Option Nat) : Mem := [.rich [.osl 1 0 5 T.length (some T.length), int64 1152921504606846976, int64 0], .rich (richRow (tObj.row T) (q * 5 + 2) (.osl 2 0 2 n cap)), .flat W false]
def rA (T : List Obj) (q : Nat) (W : List IV) (n : Nat) (cap : Option Nat) : Mem := [.rich [.osl 2 0 5 T.length (some T.length), int64 1152921504606846976, int64 0], .flat W false, .rich (richRow (tObj.row T) (q * 5 + 2) (.osl 1 0 2 n cap))]
section
variable {code : Nat → Option XFun} {ext : Calls'}
theorem zqe (h : code 213 = some x213) {T : List Obj} {q : Nat} (hq : q < T.length) (W : List IV) (n : Nat) (cap : Option Nat) {p : Nat} (k z : Int) (hp : (p : Int) = z - 1) (hN : p < T.length) (hb : T.length ≤ 1000000000) :
  callW code ext 213 [.optr 0 0, .agg [.imm (.val (.int .u8 k)), int64 z]] (rM T q W n cap) = some (.optr 1 (p * 5), rM T q W n cap) := by
 have e1 : IntKind.wrap .i64 (z - 1) = (p : Nat) := by rw [← hp]; exact wrapI64 (by omega) (by omega)
 have h2 : (p : Int) < T.length := by omega
 have p1 := zpu
 have hrl : (tObj.row T).length = T.length * 5 := zqn tObj T
 have hrf : ∀ v : AV, AV.refs.refsL (richRow (tObj.row T) (q * 5 + 2) v) = v.refs := fun v => zpe (by omega)
 rw [zbs code ext h]
 unfold rM
 generalize tObj.row T = R at *
 generalize T.length = N at *
 simp -implicitDefEqProofs [x213, e1, hN, h2, hrf, p1]
theorem zqu (c216 : code 216 = some x216) (c213 : code 213 = some x213) {T : List Obj} (hn : T.length ≤ 100000000) {q : Nat} (hq : q < T.length) (W : List IV) (n : Nat) (cap : Option Nat) {a b : Val} (ha : TextOk T a) (hb : TextOk T b) :
  callW code ext 216 [.optr 0 0, .agg [.imm (.val (.int .u8 a.k)), int64 a.n], .agg [.imm (.val (.int .u8 b.k)), int64 b.n]] (rM T q W n cap) = some (avb (sameN T a b), rM T q W n cap) := by
 have p1 := zpu
 have hrl : (tObj.row T).length = T.length * 5 := zqn tObj T
 have hrf : ∀ v : AV, AV.refs.refsL (richRow (tObj.row T) (q * 5 + 2) v) = v.refs := fun v => zpe (by omega)
 unfold sameN
 by_cases hk : a.k = b.k
 ·rw [if_neg (by simpa using hk)]
  by_cases h3 : a.k = 3
  ·rw [if_pos h3]
   obtain ⟨p, hp⟩ := ha h3
   obtain ⟨r, hr⟩ := hb (by omega)
   obtain ⟨q1, q2, _, _, o, q3, q4⟩ := ziy hp
   obtain ⟨p1', p2, _, _, u, p3, p4⟩ := ziy hr
   have t1 : textV T a = o.s := by unfold textV objOf; rw [hp]; simp [q3]
   have t2 : textV T b = u.s := by unfold textV objOf; rw [hr]; simp [p3]
   rw [t1, t2]
   have f1 := zqe (ext := ext) c213 hq W n cap a.k a.n q2 q1 (by omega)
   have f2 := zqe (ext := ext) c213 hq W n cap b.k b.n p2 p1' (by omega)
   have g1 : ∀ v, (richRow (tObj.row T) (q * 5 + 2) v)[p * 5 + 1]? = some (.imm (.val (.string o.s))) := fun v => zp2 (zqt q3) (by omega)
   have g2 : ∀ v, (richRow (tObj.row T) (q * 5 + 2) v)[r * 5 + 1]? = some (.imm (.val (.string u.s))) := fun v => zp2 (zqt p3) (by omega)
   have hb3 : b.k = 3 := by omega
   rw [zbs code ext c216]
   unfold rM at *
   rw [h3] at f1
   rw [hb3] at f2
   generalize tObj.row T = R at *
   generalize T.length = N at *
   simp -implicitDefEqProofs [x216, h3, hb3, f1, f2, g1, g2, exLook, hrf, p1]
  ·rw [if_neg h3]
   rw [zbs code ext c216]
   unfold rM
   generalize tObj.row T = R at *
   have h3' : ¬ b.k = 3 := by omega
   rw [hk] at h3 ⊢
   by_cases h0 : b.k = 0
   ·simp -implicitDefEqProofs [x216, h0, hrf, p1]
   ·simp -implicitDefEqProofs [x216, h3', h0, hrf, p1]
 ·rw [if_pos hk]
  rw [zbs code ext c216]
  unfold rM
  generalize tObj.row T = R at *
  simp -implicitDefEqProofs [x216, hk, hrf, p1]
abbrev ratMem (T : List Obj) (q : Nat) (W : List IV) (n : Nat) (cap : Option Nat) (k : Val) : Mem := rA T q W n cap ++ [.rich [.imm (.val (.int .u8 k.k)), int64 k.n]]
theorem zor (c216 : code 216 = some x216) (c213 : code 213 = some x213) {T : List Obj} (hn : T.length ≤ 100000000) {q : Nat} (hq : q < T.length) {xs : List Val} (cap : Option Nat) (hl : xs.length ≤ 1000000) {k : Val} (hk : TextOk T k) (hx : ∀ (j : Nat) a, xs[2 * j]? = some a → TextOk T a) :
  ∀ (m : Nat) (st : St), (∃ j, m + 2 * j = xs.length + 2 ∧ (∀ (i : Nat) b, i < j → xs[2 * i]? = some b → sameN T b k = false) ∧ st.tidy [0, 1, 5, 7] = ⟨3, [(0, .optr 0 0), (1, .osl 1 0 2 xs.length cap), (5, .optr 3 0), (7, int64 (2 * j : Nat))], ratMem T q (tVal.row xs) xs.length cap k⟩) →
   ∃ x s', den code ext (.loop [0, 1, 5, 7] x209L1) st = some (x, s') ∧ x ≠ .normal ∧ ∃ r, AtV T xs k r ∧ ((x = .exit 0 ∧ r = -1 ∧ ∃ env, s' = ⟨3, env, ratMem T q (tVal.row xs) xs.length cap k⟩) ∨ (x = .ret ∧ s' = ⟨3, [(6, int64 r)], ratMem T q (tVal.row xs) xs.length cap k⟩)) := by
 have p1 := zpu
 have hrl : (tObj.row T).length = T.length * 5 := zqn tObj T
 have hrf : ∀ v : AV, AV.refs.refsL (richRow (tObj.row T) (q * 5 + 2) v) = v.refs := fun v => zpe (by omega)
 refine zjt _ _ ?_
 rintro m st ⟨j, hm, hno, hst⟩
 rw [hst]
 by_cases hlt : 2 * j < xs.length
 ·obtain ⟨a, ha⟩ : ∃ a, xs[2 * j]? = some a := ⟨_, List.getElem?_eq_getElem hlt⟩
  have hcut := zf4 (t := tVal) ha
  have hcut' : cut (tVal.row xs) ((2 * j) * 2) 2 = some [.val (.int .u8 a.k), .val (.int .i64 a.n)] := hcut
  have f1 := zqu (ext := ext) c216 c213 hn hq (tVal.row xs) xs.length cap (hx j a ha) hk
  obtain ⟨i, hi⟩ : ∃ i, i = 2 * j := ⟨_, rfl⟩
  obtain ⟨i2, hi2⟩ : ∃ i2, i2 = 2 * j + 2 := ⟨_, rfl⟩
  rw [← hi] at hcut' hlt ⊢
  have e1 : (i : Int) < xs.length := by omega
  have e2 : IntKind.wrap .i64 ((i : Int) + 2) = (i2 : Int) := by rw [wrapI64 (by omega) (by omega)]; omega
  cases hs : sameN T a k with
  | true =>
   rw [hs] at f1
   refine ⟨.ret, ⟨3, [(6, int64 i)], ratMem T q (tVal.row xs) xs.length cap k⟩, ?_, .inr ⟨by simp, (i : Int), .inr ⟨j, a, by omega, ha, hs, hno⟩, .inr ⟨rfl, rfl⟩⟩⟩
   unfold rM at f1
   simp only [ratMem, rA] at f1 ⊢
   clear hcut
   generalize tVal.row xs = W at *
   generalize tObj.row T = R at *
   generalize T.length = N at *
   generalize xs.length = n at *
   simp -implicitDefEqProofs [x209L1, f1, hcut', e1, hlt, exPeek, hrf, p1]
  | false =>
   rw [hs] at f1
   refine ⟨.normal, ⟨3, [(0, .optr 0 0), (1, .osl 1 0 2 xs.length cap), (5, .optr 3 0), (7, int64 i2)], ratMem T q (tVal.row xs) xs.length cap k⟩, ?_, .inl ⟨rfl, m - 2, by omega, j + 1, by omega, ?_, ?_⟩⟩
   ·unfold rM at f1
    simp only [ratMem, rA] at f1 ⊢
    clear hcut
    generalize tVal.row xs = W at *
    generalize tObj.row T = R at *
    generalize T.length = N at *
    generalize xs.length = n at *
    simp -implicitDefEqProofs [x209L1, f1, hcut', e1, e2, hlt, exPeek, hrf, p1]
   ·intro y b hy hb
    by_cases hyj : y = j
    ·subst hyj
     rw [ha] at hb
     cases hb
     exact hs
    ·exact hno y b (by omega) hb
   ·have hjj : 2 * (j + 1) = i2 := by omega
    rw [hjj]
    simp only [ratMem, rA]
    clear hcut hcut' f1
    generalize tVal.row xs = W at *
    generalize tObj.row T = R at *
    generalize T.length = N at *
    generalize xs.length = n at *
    simp -implicitDefEqProofs [hrf, p1]
 ·refine ⟨.exit 0, ⟨3, [(0, .optr 0 0), (1, .osl 1 0 2 xs.length cap), (5, .optr 3 0), (7, int64 (2 * j : Nat)), (11, avb false)], ratMem T q (tVal.row xs) xs.length cap k⟩, ?_, .inr ⟨by simp, -1, .inl ⟨rfl, fun y b hb => ?_⟩, .inl ⟨rfl, rfl, _, rfl⟩⟩⟩
  ·obtain ⟨i, hi⟩ : ∃ i, i = 2 * j := ⟨_, rfl⟩
   rw [← hi] at hlt ⊢
   have e1 : ¬ (i : Int) < xs.length := by omega
   simp only [ratMem, rA]
   generalize tVal.row xs = W at *
   generalize tObj.row T = R at *
   generalize T.length = N at *
   generalize xs.length = n at *
   simp -implicitDefEqProofs [x209L1, e1, hlt]
  ·have := (List.getElem?_eq_some_iff.1 hb).1
   exact hno y b (by omega) hb
theorem zos (c209 : code 209 = some x209) (c216 : code 216 = some x216) (c213 : code 213 = some x213) {T : List Obj} (hn : T.length ≤ 100000000) {q : Nat} (hq : q < T.length) {xs : List Val} (cap : Option Nat) (hl : xs.length ≤ 1000000) {k : Val} (hk : TextOk T k) (hx : ∀ (j : Nat) a, xs[2 * j]? = some a → TextOk T a) :
  ∃ r, AtV T xs k r ∧ callW code ext 209 [.optr 0 0, .osl 1 0 2 xs.length cap, .agg [.imm (.val (.int .u8 k.k)), int64 k.n]] (rA T q (tVal.row xs) xs.length cap) = some (int64 r, rA T q (tVal.row xs) xs.length cap) := by
 have p1 := zpu
 have hrl : (tObj.row T).length = T.length * 5 := zqn tObj T
 have hrf : ∀ v : AV, AV.refs.refsL (richRow (tObj.row T) (q * 5 + 2) v) = v.refs := fun v => zpe (by omega)
 obtain ⟨x, s', h1, _, r, hr1, hq⟩ := zor (code := code) (ext := ext) c216 c213 hn hq cap hl hk hx (xs.length + 2) ⟨3, [(0, .optr 0 0), (1, .osl 1 0 2 xs.length cap), (5, .optr 3 0), (7, int64 0)], ratMem T q (tVal.row xs) xs.length cap k⟩ ⟨0, by omega, fun i b hi => absurd hi (Nat.not_lt_zero i), by
  simp only [ratMem, rA]
  generalize tVal.row xs = W at *
  generalize tObj.row T = R at *
  generalize T.length = N at *
  generalize xs.length = n at *
  simp -implicitDefEqProofs [hrf, p1]⟩
 refine ⟨r, hr1, ?_⟩
 rw [zbs code ext c209]
 simp only [ratMem, rA, List.cons_append, List.nil_append] at h1 hq ⊢
 generalize tVal.row xs = W at *
 generalize tObj.row T = R at *
 generalize T.length = N at *
 generalize xs.length = n at *
 rcases hq with ⟨rfl, rfl, env, rfl⟩ | ⟨rfl, rfl⟩
 ·simp -implicitDefEqProofs [x209, h1, hrf, p1]
 ·simp -implicitDefEqProofs [x209, h1, hrf, p1]
end
end Go.EX


namespace Go.EX
def rU (R : List IV) (N q : Nat) (W : List IV) (n : Nat) (cap : Option Nat) (u : Int) : Mem := [.rich [.osl 1 0 5 N (some N), int64 1152921504606846976, int64 u], .rich (richRow R (q * 5 + 2) (.osl 2 0 2 n cap)), .flat W false]
def rV (R : List IV) (N q : Nat) (W W2 : List IV) (n : Nat) (cap : Option Nat) (u : Int) : Mem := [.rich [.osl 1 0 5 N (some N), int64 1152921504606846976, int64 u], .rich (richRow R (q * 5 + 2) (.osl 3 0 2 n cap)), .flat W false, .flat W2 false]
def growR (step : Int) (n : Nat) (room : Int) : Int := if room < (n : Int) + step then (if 4 * step < 2 * room then 2 * room else 4 * step) else room
def growU (step : Int) (n : Nat) (room : Int) : Int := if room < (n : Int) + step then 1 + 2 * growR step n room else 0
def roomAt (R : List IV) (q : Nat) (room : Int) : List IV := R.set (q * 5 + 3) (.val (.int .i64 room))
theorem zqf {R : List IV} {q : Nat} {room : Int} (h : R[q * 5 + 3]? = some (.val (.int .i64 room))) : roomAt R q room = R := by
 unfold roomAt
 obtain ⟨hl, he⟩ := List.getElem?_eq_some_iff.1 h
 rw [← he]
 exact List.set_getElem_self hl
structure PutFns (code : Nat → Option XFun) : Prop where
 c206 : code 206 = some x206
 c209 : code 209 = some x209
 c213 : code 213 = some x213
 c215 : code 215 = some x215
 c216 : code 216 = some x216
 c218 : code 218 = some x218
 c580 : code 580 = some x580
 c581 : code 581 = some x581
theorem zqr : ∀ (xs : List Val) (i : Nat) (x : Val), i < xs.length → setAll (tVal.row xs) (i * 2) [.val (.int .u8 x.k), .val (.int .i64 x.n)] = tVal.row (xs.set i x)
 | [], i, x, h => absurd h (Nat.not_lt_zero _)
 | y :: r, 0, x, h => by simp [Ty.row, tVal, setAll]
 | y :: r, i + 1, x, h => by
  have ih := zqr r i x (by simpa using h)
  have e : (i + 1) * 2 = i * 2 + 1 + 1 := by omega
  have c1 : tVal.row (y :: r) = .val (.int .u8 y.k) :: .val (.int .i64 y.n) :: tVal.row r := by simp [Ty.row, tVal]
  have c2 : tVal.row (y :: r.set i x) = .val (.int .u8 y.k) :: .val (.int .i64 y.n) :: tVal.row (r.set i x) := by simp [Ty.row, tVal]
  rw [List.set_cons_succ, c1, c2, ← ih, e]
  simp [setAll]
section
variable {code : Nat → Option XFun} {ext : Calls'}
abbrev valA (v : Val) : AV := .agg [.imm (.val (.int .u8 v.k)), int64 v.n]
theorem zom (c : PutFns code) {T : List Obj} (hn : T.length ≤ 100000000) {q : Nat} (hq : q < T.length) {v k x : Val} (v4 : v.k = 4) (k2 : k.k = 2) (hv : (q : Int) = v.n - 1) (xs : List Val) (hl : xs.length ≤ 1000000) (cap : Option Nat) {i : Nat} (hk : k.n = i) (hi : i < xs.length) :
  callW code ext 215 [.optr 0 0, valA v, valA k, valA x] (rM T q (tVal.row xs) xs.length cap) = some (didP 0 0 .empty, rU (tObj.row T) T.length q (tVal.row (xs.set i x)) xs.length cap 0) := by
 have p1 := zpu
 have hrl : (tObj.row T).length = T.length * 5 := zqn tObj T
 have hrf : ∀ v : AV, AV.refs.refsL (richRow (tObj.row T) (q * 5 + 2) v) = v.refs := fun v => zpe (by omega)
 have hgt : ∀ v, (richRow (tObj.row T) (q * 5 + 2) v)[q * 5 + 2]? = some v := fun v => zp1 (by omega)
 have f1 := zig (ext := ext) c.c581 v k
 have f2 := zqe (ext := ext) c.c213 hq (tVal.row xs) xs.length cap v.k v.n hv hq (by omega)
 have e1 : ¬ k.n < 0 := by omega
 have e2 : ¬ (xs.length : Int) < k.n := by omega
 have e3 : k.n < xs.length := by omega
 have hset : setAll (tVal.row xs) (i * 2) [.val (.int .u8 x.k), .val (.int .i64 x.n)] = tVal.row (xs.set i x) := zqr xs i x hi
 have hrl2 : (tVal.row xs).length = xs.length * 2 := zqn tVal xs
 rw [v4, k2] at f1
 rw [v4] at f2
 simp only [decide_true, decide_false, Bool.or_true, Bool.true_or, Bool.true_and, Bool.and_true] at f1
 unfold valA
 rw [v4, k2]
 rw [zbs code ext c.c215]
 unfold rM rU at *
 rw [hk] at *
 generalize tVal.row (xs.set i x) = W2 at *
 generalize tVal.row xs = W at *
 generalize tObj.row T = R at *
 generalize T.length = N at *
 generalize xs.length = n at *
 have hi' : (i : Int) < n := by omega
 have hle : i * 2 + 2 ≤ W.length := by omega
 simp -implicitDefEqProofs [x215, f1, f2, exLook, hrf, p1, hgt, e1, e2, e3, hi, hi', hset, hle]
theorem zoe (c : PutFns code) {T : List Obj} (hn : T.length ≤ 100000000) {q : Nat} (hq : q < T.length) {v k x : Val} (v5 : v.k = 5) (hv : (q : Int) = v.n - 1) (xs : List Val) (hl : xs.length ≤ 1000000) (cap : Option Nat) {j : Nat} (hj : 2 * j + 1 < xs.length)
  (hat : callW code ext 209 [.optr 0 0, .osl 1 0 2 xs.length cap, valA k] (rA T q (tVal.row xs) xs.length cap) = some (int64 ((2 * j : Nat) : Int), rA T q (tVal.row xs) xs.length cap)) :
  callW code ext 215 [.optr 0 0, valA v, valA k, valA x] (rM T q (tVal.row xs) xs.length cap) = some (didP 0 0 .empty, rU (tObj.row T) T.length q (tVal.row (xs.set (2 * j + 1) x)) xs.length cap 0) := by
 have p1 := zpu
 have hrl : (tObj.row T).length = T.length * 5 := zqn tObj T
 have hrf : ∀ v : AV, AV.refs.refsL (richRow (tObj.row T) (q * 5 + 2) v) = v.refs := fun v => zpe (by omega)
 have hgt : ∀ v, (richRow (tObj.row T) (q * 5 + 2) v)[q * 5 + 2]? = some v := fun v => zp1 (by omega)
 have f1 := zig (ext := ext) c.c581 v k
 have f2 := zqe (ext := ext) c.c213 hq (tVal.row xs) xs.length cap v.k v.n hv hq (by omega)
 obtain ⟨i, hi⟩ : ∃ i, i = 2 * j + 1 := ⟨_, rfl⟩
 obtain ⟨i0, hi0⟩ : ∃ i, i = 2 * j := ⟨_, rfl⟩
 rw [← hi] at hj ⊢
 rw [← hi0] at hat
 have w1 : IntKind.wrap .i64 ((i0 : Int) + 1) = (i : Int) := by rw [wrapI64 (by omega) (by omega)]; omega
 have e0 : (0 : Int) ≤ (i0 : Int) := by omega
 have e1 : ¬ (i : Int) < 0 := by omega
 have e2 : ¬ (xs.length : Int) < (i : Int) := by omega
 have e3 : (i : Int) < xs.length := by omega
 have hset : setAll (tVal.row xs) (i * 2) [.val (.int .u8 x.k), .val (.int .i64 x.n)] = tVal.row (xs.set i x) := zqr xs i x hj
 have hrl2 : (tVal.row xs).length = xs.length * 2 := zqn tVal xs
 rw [v5] at f1 f2
 simp only [decide_true, Bool.true_or] at f1
 unfold valA at hat ⊢
 rw [v5]
 rw [zbs code ext c.c215]
 unfold rM rU rA at *
 generalize tVal.row (xs.set i x) = W2 at *
 generalize tVal.row xs = W at *
 generalize tObj.row T = R at *
 generalize T.length = N at *
 generalize xs.length = n at *
 have hle : i * 2 + 2 ≤ W.length := by omega
 simp -implicitDefEqProofs [x215, f1, f2, exLook, exPeek, hat, w1, e0, hrf, p1, hgt, e1, e2, e3, hj, hset, hle]
theorem zqv (h : code 218 = some x218) {R : List IV} {N q : Nat} (hq : q * 5 + 2 < R.length) (W : List IV) (n : Nat) (cap : Option Nat) {w : Int} (h0 : 0 ≤ w) (h1 : w ≤ 1000000) :
  callW code ext 218 [.optr 0 0, int64 w] (rU R N q W n cap 0) = some (avb true, rU R N q W n cap w) := by
 have e1 : IntKind.wrap .i64 w = w := wrapI64 (by omega) (by omega)
 have h2 : ¬ (1152921504606846976 : Int) < w := by omega
 have p1 := zpu
 have hrf : ∀ v : AV, AV.refs.refsL (richRow R (q * 5 + 2) v) = v.refs := fun v => zpe hq
 rw [zbs code ext h]
 unfold rU
 simp -implicitDefEqProofs [x218, e1, h2, hrf, p1]
end
end Go.EX

