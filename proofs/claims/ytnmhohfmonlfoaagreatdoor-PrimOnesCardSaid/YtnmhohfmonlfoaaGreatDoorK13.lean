import Derived.Test.YtnmhohfmonlfoaaGreatDoorK10
import Derived.Test.YtnmhohfmonlfoaaGreatDoorK12
set_option linter.unusedVariables false
set_option linter.unusedSimpArgs false
namespace Go.EX
def wordsObj (o : Obj) : Int :=
 if o.k = 3 then IntKind.wrap .i64 (2 + IntKind.wrap .i64 ((IntKind.wrap .i64 ((o.s.size : Int) + 7)).tdiv 8))
 else if o.k = 6 then IntKind.wrap .i64 (2 + IntKind.wrap .i64 (2 * (o.l.xs.length : Int)))
 else if (o.k = 4 ∨ o.k = 5) ∧ 0 < o.room then IntKind.wrap .i64 (4 + IntKind.wrap .i64 (2 * o.room))
 else 3
section
variable {code : Nat → Option XFun} {ext : Calls'}
theorem zqe (h : code 578 = some x578) (o : Obj) :
  ∃ m, callW code ext 578 [.agg [.imm (.val (.int .u8 o.k)), .imm (.val (.string o.s)), .imm o.l.iv, int64 o.room, int64 o.fn]] [] = some (int64 (wordsObj o), m) := by
 refine mem_of ?_
 rw [zbr code ext h]
 have hlen := zms o.l.ok
 unfold wordsObj
 by_cases k3 : o.k = 3
 ·simp -implicitDefEqProofs [x578, k3]
 by_cases k6 : o.k = 6
 ·simp -implicitDefEqProofs [x578, k6, hlen]
 by_cases k4 : o.k = 4
 ·by_cases hr : 0 < o.room
  ·simp -implicitDefEqProofs [x578, k4, hr]
  ·simp -implicitDefEqProofs [x578, k4, hr]
 by_cases k5 : o.k = 5
 ·by_cases hr : 0 < o.room
  ·simp -implicitDefEqProofs [x578, k5, hr]
  ·simp -implicitDefEqProofs [x578, k5, hr]
 ·simp -implicitDefEqProofs [x578, k3, k4, k5, k6]
theorem zck (h : code 742 = some x742) : callW code ext 742 [nilS] [] = some (nilS, []) := by
 rw [zbr code ext h]
 simp -implicitDefEqProofs [x742]
theorem zch (h : code 742 = some x742) (row : List IV) (off : Nat) (cap : Option Nat) : callW code ext 742 [.imm (.slice row off 0 cap)] [] = some (.osl 0 0 2 0 (some 0), [.flat [] false]) := by
 rw [zbr code ext h]
 have hc : cut row off 0 = some [] := by simp [cut]
 simp -implicitDefEqProofs [x742, exAppendX, exAppend, elems, hc]
theorem zcl (h : code 742 = some x742) {row : List IV} {off n : Nat} {cap : Option Nat} {R : List IV} (hc : cut row off (n * 2) = some R) (h0 : 0 < n) (hn : n ≤ 1000000000) : callW code ext 742 [.imm (.slice row off n cap)] [] = some (.osl 0 0 2 n none, [.flat R false]) := by
 rw [zbr code ext h]
 have h1 : ¬ n = 0 := by omega
 have h2 : n * 16 ≤ 140737488355328 := by omega
 simp -implicitDefEqProofs [x742, exAppendX, exAppend, elems, hc, h1, h2]
theorem zcd (h : code 740 = some x740) : callW code ext 740 [nilS] [] = some (nilS, []) := by
 rw [zbr code ext h]
 simp -implicitDefEqProofs [x740, exSlice3]
theorem zce (h : code 740 = some x740) (R : List IV) (n : Nat) (cap : Option Nat) (hc : cap = none ∨ cap = some n) (hR : R.length = n * 2) : callW code ext 740 [.imm (.slice R 0 n cap)] [] = some (.imm (.slice R 0 n (some n)), []) := by
 rw [zbr code ext h]
 rcases hc with rfl | rfl <;> simp -implicitDefEqProofs [x740, exSlice3, hR]
def isNilIV : IV → Bool
 | .val _ => true
 | _ => false
def cloneL (l : Sl tVal) : Sl tVal :=
 if isNilIV l.iv = true then l else ⟨.slice (tVal.row l.xs) 0 l.xs.length (some l.xs.length), l.xs, ⟨l.ok.1, l.ok.2.1, .inr ⟨_, 0, _, rfl, fun c h => by cases h; exact Nat.le_refl _, zc3 tVal l.xs⟩⟩⟩
def cloneObj (o : Obj) : Obj := { o with l := cloneL o.l }
theorem zcg (h : code 742 = some x742) (h2 : code 740 = some x740) (l : Sl tVal) (hb : l.xs.length ≤ 1000000000) :
  (callW code ext 742 [.imm l.iv] [] = some (nilS, []) ∧ callW code ext 740 [nilS] [] = some (nilS, []) ∧ (cloneL l).iv = .val (.slice none 0 0)) ∨
  ∃ (n : Nat) (cap : Option Nat) (R : List IV), callW code ext 742 [.imm l.iv] [] = some (.osl 0 0 2 n cap, [.flat R false]) ∧ callW code ext 740 [.imm (.slice R 0 n cap)] [] = some (.imm (.slice R 0 n (some n)), []) ∧ (cloneL l).iv = .slice R 0 n (some n) := by
 obtain ⟨iv, xs, ok⟩ := l
 dsimp only at hb ⊢
 rcases ok.2.2 with ⟨rfl, rfl⟩ | ⟨row, off, cap, rfl, hc, hcut⟩
 ·exact .inl ⟨zck h, zcd h2, rfl⟩
 ·have hr : cloneL ⟨.slice row off xs.length cap, xs, ok⟩ = ⟨.slice (tVal.row xs) 0 xs.length (some xs.length), xs, ⟨ok.1, ok.2.1, .inr ⟨_, 0, _, rfl, fun c h => by cases h; exact Nat.le_refl _, zc3 tVal xs⟩⟩⟩ := by
   unfold cloneL
   rw [if_neg (by simp [isNilIV])]
  rw [hr]
  right
  by_cases h0 : xs.length = 0
  ·have hx : xs = [] := List.eq_nil_of_length_eq_zero h0
   subst hx
   exact ⟨_, _, _, zch h row off cap, zce h2 [] 0 _ (.inr rfl) rfl, rfl⟩
  ·exact ⟨_, _, _, zcl h (R := tVal.row xs) hcut (by omega) hb, zce h2 _ _ _ (.inl rfl) (zn6 tVal xs), rfl⟩
theorem zn8 : ∀ (xs : List Obj) (i : Nat) (o : Obj) (l : Sl tVal), xs[i]? = some o → (tObj.row xs).set (i * 5 + 2) l.iv = tObj.row (xs.set i { o with l := l })
 | [], i, o, l, h => by cases h
 | x :: r, 0, o, l, h => by
  cases h
  simp [Ty.row, tObj]
 | x :: r, i + 1, o, l, h => by
  have ih := zn8 r i o l (by simpa using h)
  have e : (i + 1) * 5 + 2 = (i * 5 + 2) + 1 + 1 + 1 + 1 + 1 := by omega
  have er : ∀ (y : Obj) (q : List Obj), tObj.row (y :: q) = .val (.int .u8 y.k) :: .val (.string y.s) :: y.l.iv :: .val (.int .i64 y.room) :: .val (.int .i64 y.fn) :: tObj.row q := fun y q => rfl
  rw [List.set_cons_succ, er, er, e]
  simp only [List.set_cons_succ]
  rw [ih]
set_option maxHeartbeats 2000000 in
theorem zr5 (h : code 742 = some x742) (h2 : code 740 = some x740) {T : List Obj} (hT : ∀ o ∈ T, o.l.xs.length ≤ 1000000) (hn : T.length ≤ 100000000) (C : List IV) (mv : Bool) (cp : Option Nat) (s0 : St)
  (hs0 : s0.tidy [3, 8, 9] = ⟨1, [(3, .osl 1 0 5 T.length cp), (8, int64 T.length), (9, int64 0)], [.flat C mv, .flat (tObj.row T) false]⟩) :
  ∃ e s', den code ext (.loop [3, 8, 9] x643VL1) s0 = some (e, s') ∧ e ≠ .normal ∧ (e = .exit 0 ∧ s' = ⟨1, [(3, .osl 1 0 5 T.length cp), (8, int64 T.length), (9, int64 T.length), (10, avb false)], [.flat C mv, .flat (tObj.row (T.map cloneObj)) false]⟩) := by
 refine zir (fun n s => ∃ i, i + n = T.length ∧ s.tidy [3, 8, 9] = ⟨1, [(3, .osl 1 0 5 T.length cp), (8, int64 T.length), (9, int64 (i : Nat))], [.flat C mv, .flat (tObj.row ((T.take i).map cloneObj ++ T.drop i)) false]⟩) _ ?_ T.length _ ⟨0, by simp, by simpa using hs0⟩
 rintro n s ⟨i, hi, hst⟩
 rw [hst]
 by_cases hlt : i < T.length
 ·have hx := List.getElem?_eq_getElem hlt
  have hmem := List.getElem_mem hlt
  have hb := hT _ hmem
  have hti : ((T.take i).map cloneObj).length = i := by rw [List.length_map, List.length_take]; omega
  have hgo : ((T.take i).map cloneObj ++ T.drop i)[i]? = some T[i] := by
   rw [List.getElem?_append_right (by omega), hti, Nat.sub_self, List.getElem?_drop, Nat.add_zero]; exact hx
  have hset := zn8 _ i _ (cloneL T[i].l) hgo
  have hcell := zcy (zfo (t := tObj) hgo) 2 (by decide)
  have hnew : ((T.take i).map cloneObj ++ T.drop i).set i { T[i] with l := cloneL T[i].l } = (T.take (i + 1)).map cloneObj ++ T.drop (i + 1) := by
   rw [List.drop_eq_getElem_cons hlt, List.set_append_right _ _ (by omega), hti, Nat.sub_self, List.set_cons_zero, List.take_add_one, hx, Option.toList_some, List.map_append, List.append_assoc]
   rfl
  rw [hnew] at hset
  have hlen : ((T.take i).map cloneObj ++ T.drop i).length = T.length := by rw [List.length_append, hti, List.length_drop]; omega
  have hrl := zn6 tObj ((T.take i).map cloneObj ++ T.drop i)
  rw [hlen] at hrl
  have hcc := zcg (ext := ext) h h2 T[i].l (by omega)
  generalize T[i] = o at *
  generalize tObj.row ((T.take i).map cloneObj ++ T.drop i) = R at *
  have e1 : IntKind.wrap .i64 ((i : Int) + 1) = (i : Int) + 1 := wrapI64 (by omega) (by omega)
  have hlt' : (i : Int) < T.length := by omega
  have hcl : R[i * 5 + 2]? = some o.l.iv := hcell
  have hR : i * 5 + 2 + 1 ≤ R.length := by rw [hrl]; simp only [tObj]; omega
  have hsa : setAll R (i * 5 + 2) [(cloneL o.l).iv] = R.set (i * 5 + 2) (cloneL o.l).iv := rfl
  rw [hset] at hsa
  rcases hcc with ⟨g1, g2, g3⟩ | ⟨n2, cap2, R2, g1, g2, g3⟩
  all_goals
   rw [g3] at hsa
   refine ⟨.normal, ⟨1, [(3, .osl 1 0 5 T.length cp), (8, int64 T.length), (9, int64 ((i : Int) + 1))], [.flat C mv, .flat (tObj.row ((T.take (i + 1)).map cloneObj ++ T.drop (i + 1))) false]⟩, ?_, .inl ⟨rfl, n - 1, by omega, i + 1, by omega, by simp -implicitDefEqProofs⟩⟩
   simp -implicitDefEqProofs [x643VL1, hlt, hlt', hcl, g1, g2, e1, hR, hsa]
 ·have : i = T.length := by omega
  subst this
  rw [List.take_length, List.drop_length, List.append_nil]
  refine ⟨.exit 0, _, ?_, .inr ⟨by simp, rfl, rfl⟩⟩
  simp -implicitDefEqProofs [x643VL1]
end
end Go.EX


set_option linter.unusedVariables false
set_option linter.unusedSimpArgs false
namespace Go.EX
section
variable {code : Nat → Option XFun} {ext : Calls'}
theorem zcm (h : code 743 = some x743) {T : List Obj} (hn : T.length ≤ 100000000) {C : List IV} (mv : Bool) (cap : Option Nat) (hc : cut C 0 (T.length * 5) = some (tObj.row T)) :
  callW code ext 743 [.osl 0 0 5 T.length cap] [.flat C mv] = some (.osl 1 0 5 T.length (if T.length = 0 then some 0 else none), [.flat C mv, .flat (tObj.row T) false]) := by
 rw [zbr code ext h]
 by_cases h0 : T.length = 0
 ·have hx : T = [] := List.eq_nil_of_length_eq_zero h0
  subst hx
  have hr : tObj.row ([] : List Obj) = [] := rfl
  rw [hr]
  simp -implicitDefEqProofs [x743, exAppendX, exAppend, elems]
 ·have h2 : T.length * 64 ≤ 140737488355328 := by omega
  rw [if_neg h0]
  simp -implicitDefEqProofs [x743, exAppendX, exAppend, elems, hc, h0, h2]
theorem zcf (h : code 741 = some x741) (n : Nat) (cp : Option Nat) (hc : cp = none ∨ cp = some n) (R : List IV) :
  callW code ext 741 [.osl 0 0 5 n cp] [.flat R false] = some (.osl 0 0 5 n (some n), [.flat R false]) := by
 rw [zbr code ext h]
 rcases hc with rfl | rfl <;> simp -implicitDefEqProofs [x741, exSlice3]
theorem zr1 (h : code 643 = some x643V) (h1 : code 743 = some x743) (h2 : code 741 = some x741) (h3 : code 742 = some x742) (h4 : code 740 = some x740) {T : List Obj} (hT : ∀ o ∈ T, o.l.xs.length ≤ 1000000) (hn : T.length ≤ 100000000) {C : List IV} (mv : Bool) (cap : Option Nat) (hc : cut C 0 (T.length * 5) = some (tObj.row T)) :
  callW code ext 643 [.osl 0 0 5 T.length cap] [.flat C mv] = some (.osl 1 0 5 T.length (some T.length), [.flat C mv, .flat (tObj.row (T.map cloneObj)) false]) := by
 have g1 := zcm (ext := ext) h1 hn mv cap hc
 have hcp : (if T.length = 0 then some 0 else none) = none ∨ (if T.length = 0 then some 0 else none) = some T.length := by
  split
  ·rename_i h0; rw [h0]; exact .inr rfl
  ·exact .inl rfl
 generalize (if T.length = 0 then some 0 else none : Option Nat) = cp at g1 hcp
 have g2 := zcf (ext := ext) h2 T.length cp hcp (tObj.row (T.map cloneObj))
 obtain ⟨e, s', l1, _, rfl, rfl⟩ := zr5 (ext := ext) h3 h4 hT hn C mv cp ⟨1, [(3, .osl 1 0 5 T.length cp), (8, int64 T.length), (9, int64 0)], [.flat C mv, .flat (tObj.row T) false]⟩ (by simp -implicitDefEqProofs)
 rw [zbr code ext h]
 unfold x643V
 generalize x643VL1 = L at *
 simp -implicitDefEqProofs [g1, g2, l1]
def sizeRow (T : List Obj) : List IV := T.map fun o => .val (.int .i64 (wordsObj o))
def sizeV (n : Nat) : AV := if n = 0 then nilS else .osl 0 0 1 n none
def sizeM (T : List Obj) : Mem := if T.length = 0 then [] else [.flat (sizeRow T) false]
theorem zqf (h : code 578 = some x578) {T : List Obj} {C : List IV} (cap : Option Nat) (hC : cut C 0 (T.length * 5) = some (tObj.row T)) (hn : T.length ≤ 100000000) (s0 : St)
  (hs0 : s0.tidy [2, 5, 6, 7] = ⟨0, [(2, nilS), (5, .imm (.slice C 0 T.length cap)), (6, int64 T.length), (7, int64 0)], []⟩) :
  ∃ e s', den code ext (.loop [2, 5, 6, 7] x642L1) s0 = some (e, s') ∧ e ≠ .normal ∧ (e = .exit 0 ∧
   s' = ⟨0, [(2, sizeV T.length), (5, .imm (.slice C 0 T.length cap)), (6, int64 T.length), (7, int64 T.length), (8, avb false)], sizeM T⟩) := by
 refine zir (fun n s => ∃ i, i + n = T.length ∧ s.tidy [2, 5, 6, 7] = ⟨0, [(2, sizeV i), (5, .imm (.slice C 0 T.length cap)), (6, int64 T.length), (7, int64 (i : Nat))], sizeM (T.take i)⟩) _ ?_ T.length _ ⟨0, by simp, by simpa [sizeV, sizeM] using hs0⟩
 rintro n s ⟨i, hi, hst⟩
 rw [hst]
 by_cases hlt : i < T.length
 ·have hx := List.getElem?_eq_getElem hlt
  have hel : cut C (i * 5) 5 = some (tObj.enc T[i]) := by
   have := zcw hC (a := i * 5) (b := 5) (by omega)
   rw [Nat.zero_add] at this
   rw [this]
   exact zfo (t := tObj) hx
  have htk : T.take (i + 1) = T.take i ++ [T[i]] := by rw [List.take_add_one, hx]; rfl
  have hsr : sizeRow (T.take (i + 1)) = sizeRow (T.take i) ++ [.val (.int .i64 (wordsObj T[i]))] := by rw [htk]; unfold sizeRow; rw [List.map_append]; rfl
  obtain ⟨m, hs⟩ := zqe (ext := ext) h T[i]
  simp only [tObj] at hel
  generalize T[i] = o at *
  generalize wordsObj o = w at *
  have e1 : IntKind.wrap .i64 ((i : Int) + 1) = (i : Int) + 1 := wrapI64 (by omega) (by omega)
  have hlt' : (i : Int) < T.length := by omega
  have hti : (T.take i).length = i := by rw [List.length_take]; omega
  have hti1 : (T.take (i + 1)).length = i + 1 := by rw [List.length_take]; omega
  by_cases h0 : i = 0
  ·subst h0
   simp only [Nat.zero_mul] at hel
   have e10 : IntKind.wrap .i64 1 = 1 := rfl
   refine ⟨.normal, ⟨0, [(2, .osl 2 0 1 1 none), (5, .imm (.slice C 0 T.length cap)), (6, int64 T.length), (7, int64 1)], [.rich [.imm (.val (.int .u8 o.k)), strV o.s, .imm o.l.iv, int64 o.room, int64 o.fn], .flat [.val (.int .i64 w)] false, .flat [.val (.int .i64 w)] false]⟩, ?_, .inl ⟨rfl, n - 1, by omega, 1, by omega, ?_⟩⟩
   ·simp only [sizeV, sizeM, hti, if_true]
    simp -implicitDefEqProofs [x642L1, hlt, hlt', hel, hs, exAppendX, exAppend, elems, e10]
   ·have hsr1 : sizeRow (T.take 1) = [.val (.int .i64 w)] := by simpa [sizeRow] using hsr
    simp -implicitDefEqProofs [sizeV, sizeM, hti1, hsr1]
  ·refine ⟨.normal, ⟨0, [(2, .osl 0 0 1 (i + 1) none), (5, .imm (.slice C 0 T.length cap)), (6, int64 T.length), (7, int64 ((i : Int) + 1))], [.flat (sizeRow (T.take (i + 1))) false, .rich [.imm (.val (.int .u8 o.k)), strV o.s, .imm o.l.iv, int64 o.room, int64 o.fn], .flat [.val (.int .i64 w)] false]⟩, ?_, .inl ⟨rfl, n - 1, by omega, i + 1, by omega, ?_⟩⟩
   ·have hcut : cut (sizeRow (T.take i)) 0 i = some (sizeRow (T.take i)) := zcv _ (by unfold sizeRow; rw [List.length_map, hti])
    have hle : (i + 1) * 8 ≤ 140737488355328 := by omega
    simp only [sizeV, sizeM, hti, h0, if_false]
    simp -implicitDefEqProofs [x642L1, hlt, hlt', hel, hs, exAppendX, exAppend, elems, hcut, hle, e1, hsr]
   ·simp -implicitDefEqProofs [sizeV, sizeM, hti1]
 ·have : i = T.length := by omega
  subst this
  rw [List.take_length]
  refine ⟨.exit 0, ⟨0, [(2, sizeV T.length), (5, .imm (.slice C 0 T.length cap)), (6, int64 T.length), (7, int64 T.length), (8, avb false)], sizeM T⟩, ?_, .inr ⟨by simp, rfl, rfl⟩⟩
  unfold sizeV sizeM
  by_cases h0 : T.length = 0
  ·simp -implicitDefEqProofs [x642L1, h0]
  ·simp -implicitDefEqProofs [x642L1, h0]
theorem zqg (h : code 642 = some x642) (h1 : code 578 = some x578) {T : List Obj} {C : List IV} (cap : Option Nat) (hC : cut C 0 (T.length * 5) = some (tObj.row T)) (hn : T.length ≤ 100000000) :
  callW code ext 642 [.imm (.slice C 0 T.length cap)] [] = some (sizeV T.length, sizeM T) := by
 obtain ⟨e, s', l1, _, rfl, rfl⟩ := zqf (ext := ext) h1 cap hC hn ⟨0, [(2, nilS), (5, .imm (.slice C 0 T.length cap)), (6, int64 T.length), (7, int64 0)], []⟩ (by simp -implicitDefEqProofs)
 rw [zbr code ext h]
 unfold x642
 generalize x642L1 = L at *
 unfold sizeV sizeM at *
 by_cases h0 : T.length = 0
 ·simp only [h0, if_true, Int.natCast_zero] at *
  simp -implicitDefEqProofs [l1]
 ·simp only [h0, if_false] at *
  simp -implicitDefEqProofs [l1]
end
end Go.EX


set_option linter.unusedVariables false
set_option linter.unusedSimpArgs false
namespace Go.EX
section
variable {code : Nat → Option XFun} {ext : Calls'}
def wasV (T : List Obj) : AV := if T.length = 0 then nilS else .imm (.slice (sizeRow T) 0 T.length none)
def askSum (B : List Obj) : Int := B.foldl (fun n o => IntKind.wrap .i64 (n + wordsObj o)) 0
theorem za9 (h : code 578 = some x578) {T B : List Obj} {C : List IV} (cap : Option Nat) (hC : cut C 0 ((T ++ B).length * 5) = some (tObj.row (T ++ B))) (hn : (T ++ B).length ≤ 100000000) (s0 : St)
  (hs0 : s0.tidy [1, 4, 7, 8, 9] = ⟨0, [(1, wasV T), (4, int64 0), (7, .imm (.slice C 0 (T ++ B).length cap)), (8, int64 (T ++ B).length), (9, int64 0)], []⟩) :
  ∃ e s', den code ext (.loop [1, 4, 7, 8, 9] x639L1) s0 = some (e, s') ∧ e ≠ .normal ∧ (e = .exit 0 ∧
   s' = ⟨0, [(1, wasV T), (4, int64 (askSum B)), (7, .imm (.slice C 0 (T ++ B).length cap)), (8, int64 (T ++ B).length), (9, int64 (T ++ B).length), (10, avb false)], []⟩) := by
 refine zir (fun n s => ∃ i, i + n = (T ++ B).length ∧ s.tidy [1, 4, 7, 8, 9] = ⟨0, [(1, wasV T), (4, int64 (askSum (B.take (i - T.length)))), (7, .imm (.slice C 0 (T ++ B).length cap)), (8, int64 (T ++ B).length), (9, int64 (i : Nat))], []⟩) _ ?_ (T ++ B).length _ ⟨0, by simp, by simpa [askSum] using hs0⟩
 rintro n s ⟨i, hi, hst⟩
 rw [hst]
 have hL : (T ++ B).length = T.length + B.length := List.length_append
 by_cases hlt : i < (T ++ B).length
 ·have hx := List.getElem?_eq_getElem hlt
  have hel : cut C (i * 5) 5 = some (tObj.enc (T ++ B)[i]) := by
   have := zcw hC (a := i * 5) (b := 5) (by omega)
   rw [Nat.zero_add] at this
   rw [this]
   exact zfo (t := tObj) hx
  obtain ⟨m, hs⟩ := zqe (ext := ext) h (T ++ B)[i]
  simp only [tObj] at hel
  have e1 : IntKind.wrap .i64 ((i : Int) + 1) = (i : Int) + 1 := wrapI64 (by omega) (by omega)
  have hlt' : (i : Int) < (T ++ B).length := by omega
  by_cases hold : i < T.length
  ·have hT := List.getElem?_eq_getElem hold
   have hgt : (T ++ B)[i] = T[i] := by rw [List.getElem_append_left hold]
   rw [hgt] at hel hs hx
   have hw : (sizeRow T)[i]? = some (.val (.int .i64 (wordsObj T[i]))) := by unfold sizeRow; rw [List.getElem?_map, hT]; rfl
   have hwv : wasV T = .imm (.slice (sizeRow T) 0 T.length none) := by unfold wasV; rw [if_neg (by omega)]
   have hz : i - T.length = 0 := by omega
   have hz1 : i + 1 - T.length = 0 := by omega
   have h1 : ¬ (T.length : Int) ≤ i := by omega
   have h2 : (i : Int) < T.length := by omega
   have ha : askSum (B.take 0) = 0 := rfl
   generalize T[i] = o at *
   generalize wordsObj o = w at *
   rw [hwv, hz, ha]
   clear hgt
   generalize (T ++ B).length = N at *
   refine ⟨.normal, ⟨0, [(1, .imm (.slice (sizeRow T) 0 T.length none)), (4, int64 0), (7, .imm (.slice C 0 N cap)), (8, int64 N), (9, int64 ((i : Int) + 1))], [.rich [.imm (.val (.int .u8 o.k)), strV o.s, .imm o.l.iv, int64 o.room, int64 o.fn]]⟩, ?_, .inl ⟨rfl, n - 1, by omega, i + 1, by omega, ?_⟩⟩
   ·simp -implicitDefEqProofs [x639L1, hlt, hlt', hel, hs, hw, h1, h2, hold, e1]
   ·rw [hz1, ha]
    simp -implicitDefEqProofs
  ·have hB : i - T.length < B.length := by omega
   have hBx := List.getElem?_eq_getElem hB
   have hgt : (T ++ B)[i] = B[i - T.length] := by rw [List.getElem_append_right (by omega)]
   rw [hgt] at hel hs hx
   have hz1 : i + 1 - T.length = (i - T.length) + 1 := by omega
   have htk : B.take (i - T.length + 1) = B.take (i - T.length) ++ [B[i - T.length]] := by rw [List.take_add_one, hBx]; rfl
   have ha : askSum (B.take (i - T.length + 1)) = IntKind.wrap .i64 (askSum (B.take (i - T.length)) + wordsObj B[i - T.length]) := by rw [htk]; unfold askSum; rw [List.foldl_append]; rfl
   have h1 : (T.length : Int) ≤ i := by omega
   generalize B[i - T.length] = o at *
   generalize wordsObj o = w at *
   generalize askSum (B.take (i - T.length)) = a at *
   have hwv : lenOf (wasV T) = some T.length := by
    unfold wasV
    by_cases h0 : T.length = 0
    ·rw [if_pos h0, h0]; rfl
    ·rw [if_neg h0]; rfl
   have hws : ∃ x, wasV T = .imm x := by
    unfold wasV
    split
    ·exact ⟨_, rfl⟩
    ·exact ⟨_, rfl⟩
   obtain ⟨x, hws⟩ := hws
   rw [hws] at hwv ⊢
   clear hgt
   generalize (T ++ B).length = N at *
   refine ⟨.normal, ⟨0, [(1, .imm x), (4, int64 (IntKind.wrap .i64 (a + w))), (7, .imm (.slice C 0 N cap)), (8, int64 N), (9, int64 ((i : Int) + 1))], [.rich [.imm (.val (.int .u8 o.k)), strV o.s, .imm o.l.iv, int64 o.room, int64 o.fn]]⟩, ?_, .inl ⟨rfl, n - 1, by omega, i + 1, by omega, ?_⟩⟩
   ·simp -implicitDefEqProofs [x639L1, hlt, hlt', hel, hs, hwv, h1, e1]
   ·rw [hz1, ha]
    simp -implicitDefEqProofs
 ·have : i = (T ++ B).length := by omega
  subst this
  have hz : (T ++ B).length - T.length = B.length := by omega
  rw [hz, List.take_length]
  have hws : ∃ x, wasV T = .imm x := by
   unfold wasV
   split
   ·exact ⟨_, rfl⟩
   ·exact ⟨_, rfl⟩
  obtain ⟨x, hws⟩ := hws
  rw [hws]
  refine ⟨.exit 0, ⟨0, [(1, .imm x), (4, int64 (askSum B)), (7, .imm (.slice C 0 (T ++ B).length cap)), (8, int64 (T ++ B).length), (9, int64 (T ++ B).length), (10, avb false)], []⟩, ?_, .inr ⟨by simp, rfl, rfl⟩⟩
  generalize (T ++ B).length = N at *
  simp -implicitDefEqProofs [x639L1]
theorem zba (h : code 639 = some x639) (h1 : code 578 = some x578) {T B : List Obj} {C : List IV} (cap : Option Nat) (hC : cut C 0 ((T ++ B).length * 5) = some (tObj.row (T ++ B))) (hn : (T ++ B).length ≤ 100000000) :
  callW code ext 639 [.imm (.slice C 0 (T ++ B).length cap), wasV T] [] = some (int64 (askSum B), []) := by
 have hws : ∃ x, wasV T = .imm x := by
  unfold wasV
  split
  ·exact ⟨_, rfl⟩
  ·exact ⟨_, rfl⟩
 obtain ⟨x, hws⟩ := hws
 obtain ⟨e, s', l1, _, rfl, rfl⟩ := za9 (ext := ext) h1 cap hC hn ⟨0, [(1, wasV T), (4, int64 0), (7, .imm (.slice C 0 (T ++ B).length cap)), (8, int64 (T ++ B).length), (9, int64 0)], []⟩ (by rw [hws]; generalize (T ++ B).length = N; simp -implicitDefEqProofs)
 rw [hws] at l1 ⊢
 rw [zbr code ext h]
 unfold x639
 generalize x639L1 = L at *
 generalize (T ++ B).length = N at *
 simp -implicitDefEqProofs [l1]
end
end Go.EX


set_option linter.unusedVariables false
set_option linter.unusedSimpArgs false
namespace Go.EX
section
variable {code : Nat → Option XFun} {ext : Calls'}
def addBase (T : List Obj) (out : List Nat) (o : AV) : Mem := [.rich [.osl 3 0 5 T.length (some (T.length + 1))], .rich [.omap 4], .rich [o], .flat (storeRow T) false, .map (seenL 3 out)]
abbrev addEnv (lv : IV) (n i : Int) : Env := [(1, .optr 0 0), (2, .optr 1 0), (3, .optr 2 0), (8, .imm lv), (9, int64 n), (10, int64 i)]
theorem zag (h : code 651 = some x651) (T : List Obj) (hb : T.length ≤ 1048576) (row : List IV) (off : Nat) (cap : Option Nat) (l : List Val) (hl : Reads tVal (.slice row off l.length cap) l) (out : List Nat) (i : Nat) (v : Val) (hv : l[i]? = some v)
  (hold : leadsOf T v = none ∨ ∃ k, leadsOf T v = some k ∧ k ∈ out) (k : Nat) (o : AV) (tail : Mem) (hk : (k = 5 ∧ ((out = [] ∧ o = nilS ∧ tail = []) ∨ (o = .osl 5 0 1 out.length none ∧ tail = [.rich (ptrs 3 out)]))) ∨ (k = 6 ∧ ((o = .osl 5 0 1 out.length none ∧ tail = [.rich (ptrs 3 out)]) ∨ (o = .osl 6 0 1 out.length none ∧ tail = [.dead, .rich (ptrs 3 out)])))) :
  ∃ s', den code ext x655L1 ⟨k, addEnv (.slice row off l.length cap) l.length i, addBase T out o ++ tail⟩ = some (.normal, s') ∧ s'.tidy [1, 2, 3, 8, 9, 10] = ⟨k, addEnv (.slice row off l.length cap) l.length ((i : Int) + 1), addBase T out o ++ tail⟩ := by
 have hlt := (List.getElem?_eq_some_iff.1 hv).1
 obtain ⟨row', off', cap', he, hc, hcut, hget⟩ := zmt hl hv
 cases he
 simp only [tVal] at hget
 have hb2 := hl.2.1
 have hw := (hl.1 v (List.mem_of_getElem? hv)).2
 have e1 : IntKind.wrap .i64 ((i : Int) + 1) = (i : Int) + 1 := wrapI64 (by omega) (by omega)
 have hld := zh2 (ext := ext) h T hb v hw
 rcases hold with hn | ⟨q, hq, hm⟩
 ·rw [hn, leadAV] at hld
  rcases hk with ⟨rfl, ⟨rfl, rfl, rfl⟩ | ⟨rfl, rfl⟩⟩ | ⟨rfl, ⟨rfl, rfl⟩ | ⟨rfl, rfl⟩⟩
  ·refine ⟨⟨5, addEnv (.slice row off l.length cap) l.length ((i : Int) + 1), addBase T [] nilS ++ [.rich [.imm (.val (.int .u8 v.k)), int64 v.n]]⟩, ?_, ?_⟩
   ·simp -implicitDefEqProofs [x655L1, addBase, hlt, hget, hld, e1]
   ·simp -implicitDefEqProofs [addBase]
  ·refine ⟨⟨5, addEnv (.slice row off l.length cap) l.length ((i : Int) + 1), addBase T out (.osl 5 0 1 out.length none) ++ [.rich (ptrs 3 out), .rich [.imm (.val (.int .u8 v.k)), int64 v.n]]⟩, ?_, ?_⟩
   ·simp -implicitDefEqProofs [x655L1, addBase, hlt, hget, hld, e1]
   ·simp -implicitDefEqProofs [addBase]
  ·refine ⟨⟨6, addEnv (.slice row off l.length cap) l.length ((i : Int) + 1), addBase T out (.osl 5 0 1 out.length none) ++ [.rich (ptrs 3 out), .rich [.imm (.val (.int .u8 v.k)), int64 v.n]]⟩, ?_, ?_⟩
   ·simp -implicitDefEqProofs [x655L1, addBase, hlt, hget, hld, e1]
   ·simp -implicitDefEqProofs [addBase]
  ·refine ⟨⟨6, addEnv (.slice row off l.length cap) l.length ((i : Int) + 1), addBase T out (.osl 6 0 1 out.length none) ++ [.dead, .rich (ptrs 3 out), .rich [.imm (.val (.int .u8 v.k)), int64 v.n]]⟩, ?_, ?_⟩
   ·simp -implicitDefEqProofs [x655L1, addBase, hlt, hget, hld, e1]
   ·simp -implicitDefEqProofs [addBase]
 ·rw [hq, leadAV] at hld
  rcases zfh 3 q out 0 with ⟨h1, _⟩ | ⟨_, j, hf, hj⟩
  ·exact absurd hm h1
  simp only [Nat.zero_add] at hf
  rcases hk with ⟨rfl, ⟨rfl, rfl, rfl⟩ | ⟨rfl, rfl⟩⟩ | ⟨rfl, ⟨rfl, rfl⟩ | ⟨rfl, rfl⟩⟩
  ·cases hm
  ·refine ⟨⟨5, addEnv (.slice row off l.length cap) l.length ((i : Int) + 1), addBase T out (.osl 5 0 1 out.length none) ++ [.rich (ptrs 3 out), .rich [.imm (.val (.int .u8 v.k)), int64 v.n]]⟩, ?_, ?_⟩
   ·simp -implicitDefEqProofs [x655L1, addBase, hlt, hget, hld, e1, hf, hj, AObj.hasCells]
   ·simp -implicitDefEqProofs [addBase]
  ·refine ⟨⟨6, addEnv (.slice row off l.length cap) l.length ((i : Int) + 1), addBase T out (.osl 5 0 1 out.length none) ++ [.rich (ptrs 3 out), .rich [.imm (.val (.int .u8 v.k)), int64 v.n]]⟩, ?_, ?_⟩
   ·simp -implicitDefEqProofs [x655L1, addBase, hlt, hget, hld, e1, hf, hj, AObj.hasCells]
   ·simp -implicitDefEqProofs [addBase]
  ·refine ⟨⟨6, addEnv (.slice row off l.length cap) l.length ((i : Int) + 1), addBase T out (.osl 6 0 1 out.length none) ++ [.dead, .rich (ptrs 3 out), .rich [.imm (.val (.int .u8 v.k)), int64 v.n]]⟩, ?_, ?_⟩
   ·simp -implicitDefEqProofs [x655L1, addBase, hlt, hget, hld, e1, hf, hj, AObj.hasCells]
   ·simp -implicitDefEqProofs [addBase]
theorem zaf (h : code 651 = some x651) (T : List Obj) (hb : T.length ≤ 1048576) (row : List IV) (off : Nat) (cap : Option Nat) (l : List Val) (hl : Reads tVal (.slice row off l.length cap) l) (out : List Nat) (hbo : out.length ≤ 1048576) (i : Nat) (v : Val) (hv : l[i]? = some v)
  (q : Nat) (hq : leadsOf T v = some q) (hm : q ∉ out) (k : Nat) (o : AV) (tail : Mem) (hk : (k = 5 ∧ ((out = [] ∧ o = nilS ∧ tail = []) ∨ (o = .osl 5 0 1 out.length none ∧ tail = [.rich (ptrs 3 out)]))) ∨ (k = 6 ∧ ((o = .osl 5 0 1 out.length none ∧ tail = [.rich (ptrs 3 out)]) ∨ (o = .osl 6 0 1 out.length none ∧ tail = [.dead, .rich (ptrs 3 out)])))) :
  ∃ s', den code ext x655L1 ⟨k, addEnv (.slice row off l.length cap) l.length i, addBase T out o ++ tail⟩ = some (.normal, s') ∧
   s'.tidy [1, 2, 3, 8, 9, 10] = ⟨k, addEnv (.slice row off l.length cap) l.length ((i : Int) + 1), addBase T (out ++ [q]) (.osl k 0 1 (out.length + 1) none) ++ (if k = 5 then [] else [.dead]) ++ [.rich (ptrs 3 (out ++ [q]))]⟩ := by
 have hlt := (List.getElem?_eq_some_iff.1 hv).1
 obtain ⟨row', off', cap', he, hc, hcut, hget⟩ := zmt hl hv
 cases he
 simp only [tVal] at hget
 have hb2 := hl.2.1
 have hw := (hl.1 v (List.mem_of_getElem? hv)).2
 have e1 : IntKind.wrap .i64 ((i : Int) + 1) = (i : Int) + 1 := wrapI64 (by omega) (by omega)
 have hld := zh2 (ext := ext) h T hb v hw
 rw [hq, leadAV] at hld
 rcases zfh 3 q out 0 with ⟨_, hf⟩ | ⟨h1, _⟩
 case inr => exact absurd h1 hm
 have hcp := zc2 3 out
 have hs1 := zpt 3 q out
 have hs2 := zly 3 q out
 have hbd : (out.length + 1) * 8 ≤ 140737488355328 := by omega
 have h0 : seenL 3 [] = [] := rfl
 have h0' : [(AV.optr 3 (q * 5), avb true)] = seenL 3 [q] := rfl
 have h0'' : [AV.optr 3 (q * 5)] = ptrs 3 [q] := rfl
 have hf0 : ∀ (m : Mem) (x : AV), findK m 3 x [] 0 = some none := fun _ _ => rfl
 rcases hk with ⟨rfl, ⟨rfl, rfl, rfl⟩ | ⟨rfl, rfl⟩⟩ | ⟨rfl, ⟨rfl, rfl⟩ | ⟨rfl, rfl⟩⟩
 ·refine ⟨⟨5, addEnv (.slice row off l.length cap) l.length ((i : Int) + 1), addBase T [q] (.osl 7 0 1 1 none) ++ [.rich [.imm (.val (.int .u8 v.k)), int64 v.n], .rich [.optr 3 (q * 5)], .rich [.optr 3 (q * 5)]]⟩, ?_, ?_⟩
  ·simp -implicitDefEqProofs [x655L1, addBase, hlt, hget, hld, e1, h0, hf0, exAppendX, exAppend, exAppendR, elems, elemsR, h0']
  ·simp -implicitDefEqProofs [addBase, ptrs]
 ·refine ⟨⟨5, addEnv (.slice row off l.length cap) l.length ((i : Int) + 1), addBase T (out ++ [q]) (.osl 8 0 1 (out.length + 1) none) ++ [.dead, .rich [.imm (.val (.int .u8 v.k)), int64 v.n], .rich [.optr 3 (q * 5)], .rich (ptrs 3 (out ++ [q]))]⟩, ?_, ?_⟩
  ·simp -implicitDefEqProofs [x655L1, addBase, hlt, hget, hld, e1, hf, AObj.hasCells, hs1, hs2, hcp, hbd, exAppendX, exAppend, exAppendR, elems, elemsR]
  ·simp -implicitDefEqProofs [addBase]
 ·refine ⟨⟨6, addEnv (.slice row off l.length cap) l.length ((i : Int) + 1), addBase T (out ++ [q]) (.osl 8 0 1 (out.length + 1) none) ++ [.dead, .rich [.imm (.val (.int .u8 v.k)), int64 v.n], .rich [.optr 3 (q * 5)], .rich (ptrs 3 (out ++ [q]))]⟩, ?_, ?_⟩
  ·simp -implicitDefEqProofs [x655L1, addBase, hlt, hget, hld, e1, hf, AObj.hasCells, hs1, hs2, hcp, hbd, exAppendX, exAppend, exAppendR, elems, elemsR]
  ·simp -implicitDefEqProofs [addBase]
 ·refine ⟨⟨6, addEnv (.slice row off l.length cap) l.length ((i : Int) + 1), addBase T (out ++ [q]) (.osl 9 0 1 (out.length + 1) none) ++ [.dead, .dead, .rich [.imm (.val (.int .u8 v.k)), int64 v.n], .rich [.optr 3 (q * 5)], .rich (ptrs 3 (out ++ [q]))]⟩, ?_, ?_⟩
  ·simp -implicitDefEqProofs [x655L1, addBase, hlt, hget, hld, e1, hf, AObj.hasCells, hs1, hs2, hcp, hbd, exAppendX, exAppend, exAppendR, elems, elemsR]
  ·simp -implicitDefEqProofs [addBase]
end
end Go.EX


set_option linter.unusedVariables false
set_option linter.unusedSimpArgs false
namespace Go.EX
section
variable {code : Nat → Option XFun} {ext : Calls'}
def AddShape (k : Nat) (out : List Nat) (o : AV) (tail : Mem) : Prop :=
 (k = 5 ∧ ((out = [] ∧ o = nilS ∧ tail = []) ∨ (o = .osl 5 0 1 out.length none ∧ tail = [.rich (ptrs 3 out)]))) ∨ (k = 6 ∧ ((o = .osl 5 0 1 out.length none ∧ tail = [.rich (ptrs 3 out)]) ∨ (o = .osl 6 0 1 out.length none ∧ tail = [.dead, .rich (ptrs 3 out)])))
theorem zp8 (n : Nat) (out : List Nat) (h : out.Nodup) (hl : ∀ k ∈ out, k < n) : out.length ≤ n := by
 have hp : out.Perm ((List.range n).filter fun k => decide (k ∈ out)) := (List.perm_ext_iff_of_nodup h (List.nodup_range.filter _)).2 fun k => by
  rw [List.mem_filter, List.mem_range]
  exact ⟨fun hk => ⟨hl k hk, by simpa using hk⟩, fun hk => by simpa using hk.2⟩
 rw [hp.length_eq]
 exact Nat.le_trans (List.length_filter_le _ _) (by simp)
theorem zae (h : code 651 = some x651) (T : List Obj) (hb : T.length ≤ 1048576) (lv : IV) (l : List Val) (hl : Reads tVal lv l) (k : Nat) (out : List Nat) (o : AV) (tail : Mem) (hsh : AddShape k out o tail) (hnd : out.Nodup) (hlt : ∀ q ∈ out, q < T.length) {s : St}
  (hst : s.tidy [1, 2, 3, 8, 9, 10] = ⟨k, addEnv lv l.length 0, addBase T out o ++ tail⟩) :
  ∃ e s', den code ext (.loop [1, 2, 3, 8, 9, 10] x655L1) s = some (e, s') ∧ e ≠ .normal ∧
   (e = .exit 0 ∧ ∃ o' tail', AddShape k (addAll T out l) o' tail' ∧ (addAll T out l = out → o' = o ∧ tail' = tail) ∧ (addAll T out l ≠ out → o' = .osl k 0 1 (addAll T out l).length none) ∧
    s' = ⟨k, addEnv lv l.length l.length ++ [(11, avb false)], addBase T (addAll T out l) o' ++ tail'⟩) := by
 refine zir (fun n s => ∃ (i : Nat) (out1 : List Nat) (o1 : AV) (tail1 : Mem), i + n = l.length ∧ addAll T out l = addAll T out1 (l.drop i) ∧ AddShape k out1 o1 tail1 ∧ out1.Nodup ∧ (∀ q ∈ out1, q < T.length) ∧
  (∃ r, out1 = out ++ r ∧ (r = [] → o1 = o ∧ tail1 = tail) ∧ (r ≠ [] → o1 = .osl k 0 1 out1.length none)) ∧ s.tidy [1, 2, 3, 8, 9, 10] = ⟨k, addEnv lv l.length i, addBase T out1 o1 ++ tail1⟩) _ ?_ l.length _ ⟨0, out, o, tail, by simp, by simp, hsh, hnd, hlt, ⟨[], by simp, fun _ => ⟨rfl, rfl⟩, fun h => absurd rfl h⟩, hst⟩
 clear hst hsh hnd hlt s
 rintro n s ⟨i, out1, o1, tail1, hi, ha, hsh, hnd, hlt, ⟨r, hr, hr1, hr2⟩, hst⟩
 rw [hst]
 by_cases hil : i < l.length
 ·have hv := List.getElem?_eq_getElem hil
  rw [List.drop_eq_getElem_cons hil, addAll] at ha
  obtain ⟨row, off, cap, rfl, _, _, _⟩ := zmt hl hv
  generalize l[i] = v at hv ha
  cases hq : leadsOf T v with
  | none =>
   rw [hq] at ha
   obtain ⟨s', g1, g2⟩ := zag (code := code) (ext := ext) h T hb row off cap l hl out1 i v hv (.inl hq) k o1 tail1 hsh
   exact ⟨.normal, s', g1, .inl ⟨rfl, n - 1, by omega, i + 1, out1, o1, tail1, by omega, ha, hsh, hnd, hlt, ⟨r, hr, hr1, hr2⟩, by rw [g2]; rfl⟩⟩
  | some q =>
   rw [hq] at ha
   by_cases hm : q ∈ out1
   ·dsimp only at ha
    rw [if_pos hm] at ha
    obtain ⟨s', g1, g2⟩ := zag (code := code) (ext := ext) h T hb row off cap l hl out1 i v hv (.inr ⟨q, hq, hm⟩) k o1 tail1 hsh
    exact ⟨.normal, s', g1, .inl ⟨rfl, n - 1, by omega, i + 1, out1, o1, tail1, by omega, ha, hsh, hnd, hlt, ⟨r, hr, hr1, hr2⟩, by rw [g2]; rfl⟩⟩
   ·dsimp only at ha
    rw [if_neg hm] at ha
    have hlen := zp8 T.length out1 hnd hlt
    obtain ⟨s', g1, g2⟩ := zaf (code := code) (ext := ext) h T hb row off cap l hl out1 (by omega) i v hv q hq hm k o1 tail1 hsh
    refine ⟨.normal, s', g1, .inl ⟨rfl, n - 1, by omega, i + 1, out1 ++ [q], .osl k 0 1 (out1.length + 1) none, (if k = 5 then [] else [.dead]) ++ [.rich (ptrs 3 (out1 ++ [q]))], by omega, ha, ?_, ?_, ?_, ⟨r ++ [q], by rw [hr]; simp, fun h => by simp at h, fun _ => by simp⟩, by rw [g2, List.append_assoc]; rfl⟩⟩
    ·rcases hsh with ⟨rfl, _⟩ | ⟨rfl, _⟩
     ·exact .inl ⟨rfl, .inr ⟨by simp, by simp⟩⟩
     ·exact .inr ⟨rfl, .inr ⟨by simp, by simp⟩⟩
    ·rw [List.nodup_append]
     exact ⟨hnd, by simp, fun a ha' b hb' => by simp at hb'; subst hb'; exact fun e => hm (e ▸ ha')⟩
    ·intro p hp
     rw [List.mem_append, List.mem_singleton] at hp
     rcases hp with hp | rfl
     ·exact hlt p hp
     ·exact (zh1 hq).1
 ·have : i = l.length := by omega
  subst this
  rw [List.drop_eq_nil_of_le (Nat.le_refl _), addAll] at ha
  refine ⟨.exit 0, ⟨k, addEnv lv l.length l.length ++ [(11, avb false)], addBase T (addAll T out l) o1 ++ tail1⟩, ?_, .inr ⟨by simp, rfl, o1, tail1, by rw [ha]; exact hsh, fun he => hr1 ?_, fun he => ?_, rfl⟩⟩
  ·rw [ha]
   simp -implicitDefEqProofs [x655L1]
  ·rw [ha, hr] at he
   simpa using he
  ·rw [ha]
   refine hr2 fun e => he ?_
   rw [ha, hr, e]; simp
theorem zah (h : code 651 = some x651) (h' : code 655 = some x655) (T : List Obj) (hb : T.length ≤ 1048576) (lv : IV) (l : List Val) (hl : Reads tVal lv l) (k : Nat) (out : List Nat) (o : AV) (tail : Mem) (hsh : AddShape k out o tail) (hk : (addBase T out o ++ tail).length = k) (hnd : out.Nodup) (hlt : ∀ q ∈ out, q < T.length) :
  ∃ o' tail', AddShape k (addAll T out l) o' tail' ∧ (addAll T out l = out → o' = o ∧ tail' = tail) ∧ (addAll T out l ≠ out → o' = .osl k 0 1 (addAll T out l).length none) ∧
   callW code ext 655 [.imm lv, .optr 0 0, .optr 1 0, .optr 2 0] (addBase T out o ++ tail) = some (.tup [], addBase T (addAll T out l) o' ++ tail') := by
 have hlen := zms hl
 obtain ⟨e, s', h1, _, rfl, o', tail', g1, g2, g3, rfl⟩ := zae (code := code) (ext := ext) h T hb lv l hl k out o tail hsh hnd hlt (s := ⟨k, addEnv lv l.length 0, addBase T out o ++ tail⟩) (by
  rcases hsh with ⟨rfl, ⟨rfl, rfl, rfl⟩ | ⟨rfl, rfl⟩⟩ | ⟨rfl, ⟨rfl, rfl⟩ | ⟨rfl, rfl⟩⟩ <;> simp -implicitDefEqProofs [addBase])
 refine ⟨o', tail', g1, g2, g3, ?_⟩
 rw [zbr code ext h', hk]
 generalize hM : addBase T out o ++ tail = M at h1 ⊢
 generalize hout : addAll T out l = out' at *
 clear hsh g2 g3 hk hM
 rcases g1 with ⟨rfl, ⟨rfl, rfl, rfl⟩ | ⟨rfl, rfl⟩⟩ | ⟨rfl, ⟨rfl, rfl⟩ | ⟨rfl, rfl⟩⟩
 ·simp -implicitDefEqProofs [x655, hlen, h1, addBase]
 ·simp -implicitDefEqProofs [x655, hlen, h1, addBase]
 ·simp -implicitDefEqProofs [x655, hlen, h1, addBase]
 ·simp -implicitDefEqProofs [x655, hlen, h1, addBase]
end
end Go.EX


set_option linter.unusedVariables false
set_option linter.unusedSimpArgs false
namespace Go.EX
section
variable {code : Nat → Option XFun} {ext : Calls'}
theorem zqs {T : List Obj} {k : Nat} {o : Obj} (h : T[k]? = some o) : (storeRow T)[k * 5 + 2]? = some o.l.iv := by
 have := zcy (zqr h) 2 (by omega)
 exact this
end
end Go.EX

set_option linter.unusedVariables false
set_option linter.unusedSimpArgs false
namespace Go.EX
def valOf (S : List Obj) (v : Val) : Bool := if v.k = 0 then decide (v.n = 0) else if v.k = 1 then decide (v.n = 0 ∨ v.n = 1) else if v.k = 2 then true else (leadsOf S v).isSome
section
variable {code : Nat → Option XFun} {ext : Calls'}
theorem zsk (h : code 651 = some x651) (h' : code 656 = some x656) (T : List Obj) (hb : T.length ≤ 1048576) (v : Val) (hv : (tInt .i64).wf v.n) :
  callW code ext 656 [.osl 0 0 5 T.length (some (T.length + 1)), .agg [.imm (.val (.int .u8 v.k)), int64 v.n]] [.flat (storeRow T) false] = some (avb (valOf T v), [.flat (storeRow T) false]) := by
 rw [zbr code ext h']
 have hl := zh2 (ext := ext) h T hb v hv
 by_cases k0 : v.k = 0
 ·simp -implicitDefEqProofs [x656, valOf, k0]
 by_cases k1 : v.k = 1
 ·by_cases n0 : v.n = 0
  ·simp -implicitDefEqProofs [x656, valOf, k1, n0]
  ·simp -implicitDefEqProofs [x656, valOf, k1, n0]
 by_cases k2 : v.k = 2
 ·simp -implicitDefEqProofs [x656, valOf, k2]
 cases hq : leadsOf T v with
 | none =>
  rw [hq, leadAV] at hl
  simp -implicitDefEqProofs [x656, valOf, k0, k1, k2, hq, hl]
 | some q =>
  rw [hq, leadAV] at hl
  simp -implicitDefEqProofs [x656, valOf, k0, k1, k2, hq, hl]
theorem zm1 (h : code 502 = some x502) (h' : code 510 = some x510) {sv : IV} {S : List Obj} (hr : Reads tObj sv S) (v : Val) : callW code ext 510 [.imm sv, .agg [.imm (.val (.int .u8 v.k)), int64 v.n]] [] = some (avb (valOf S v), []) := by
 rw [zbr code ext h']
 have hl := zh5 (ext := ext) h hr v
 by_cases k0 : v.k = 0
 ·simp -implicitDefEqProofs [x510, valOf, k0]
 by_cases k1 : v.k = 1
 ·by_cases n0 : v.n = 0
  ·simp -implicitDefEqProofs [x510, valOf, k1, n0]
  ·simp -implicitDefEqProofs [x510, valOf, k1, n0]
 by_cases k2 : v.k = 2
 ·simp -implicitDefEqProofs [x510, valOf, k2]
 unfold leadInt at hl
 cases hq : leadsOf S v with
 | none =>
  rw [hq] at hl
  simp -implicitDefEqProofs [x510, valOf, k0, k1, k2, hq, hl]
 | some q =>
  rw [hq] at hl
  have : (0 : Int) ≤ q := by omega
  simp -implicitDefEqProofs [x510, valOf, k0, k1, k2, hq, hl, this]
def heldOf (S : List Obj) (l : List Val) (c : Bool) : Bool := l.all fun v => valOf S v && (decide (v.k = 7) == c)
theorem zmx (h : code 502 = some x502) (h' : code 510 = some x510) (h2 : code 506 = some x506) {sv lv : IV} {S : List Obj} {l : List Val} (hr : Reads tObj sv S) (hl : Reads tVal lv l) (c : Bool) :
  callW code ext 506 [.imm sv, .imm lv, avb c] [] = some (avb (heldOf S l c), []) := by
 have hlen := zms hl
 have hb := hl.2.1
 have loop : ∃ e s', den code ext (.loop [0, 1, 2, 7] x506L1) ⟨0, [(0, .imm sv), (1, .imm lv), (2, avb c), (7, int64 0)], []⟩ = some (e, s') ∧ e ≠ .normal ∧
   ((e = .exit 0 ∧ heldOf S l c = true ∧ s' = ⟨0, [(0, .imm sv), (1, .imm lv), (2, avb c), (7, int64 l.length), (11, avb false)], []⟩) ∨ (e = .ret ∧ heldOf S l c = false ∧ s' = ⟨0, [(6, avb false)], []⟩)) := by
  refine zir (fun n s => ∃ (i : Nat), i + n = l.length ∧ heldOf S (l.take i) c = true ∧ s = ⟨0, [(0, .imm sv), (1, .imm lv), (2, avb c), (7, int64 (i : Nat))], []⟩) _ ?_ l.length _ ⟨0, by simp, by simp [heldOf], rfl⟩
  rintro n _ ⟨i, hi, hall, rfl⟩
  by_cases hlt : i < l.length
  ·obtain ⟨row, off, cap, rfl, hc, hcut, hget⟩ := zmt hl (List.getElem?_eq_getElem hlt)
   have e1 : IntKind.wrap .i64 ((i : Int) + 1) = (i : Int) + 1 := wrapI64 (by omega) (by omega)
   have htk : l.take (i + 1) = l.take i ++ [l[i]] := by rw [List.take_add_one, List.getElem?_eq_getElem hlt]; rfl
   have hmem := List.getElem_mem hlt
   generalize l[i] = v at hget htk hmem
   simp only [tVal] at hget
   have hv := zm1 (ext := ext) h h' hr v
   have g0 : row[off + i * 2]? = some (.val (.int .u8 v.k)) := zcy hget 0 (by omega)
   by_cases hvv : valOf S v = true
   ·by_cases hcc : decide (v.k = 7) = c
    ·have g : (valOf S v && (decide (v.k = 7) == c)) = true := by rw [hvv, hcc]; simp
     refine ⟨.normal, ⟨0, [(0, .imm sv), (1, .imm (.slice row off l.length cap)), (2, avb c), (7, int64 ((i : Int) + 1))], []⟩, ?_, .inl ⟨rfl, n - 1, by omega, i + 1, by omega, ?_, rfl⟩⟩
     ·simp -implicitDefEqProofs [x506L1, hlt, hget, g0, hv, hvv, hcc, e1]
     ·rw [htk]; unfold heldOf at hall ⊢; rw [List.all_append, hall]; simp [g]
    ·have g : (valOf S v && (decide (v.k = 7) == c)) = false := by rw [beq_eq_false_iff_ne.2 hcc]; simp
     have hcb : (decide (v.k = 7) == c) = false := beq_eq_false_iff_ne.2 hcc
     refine ⟨.ret, ⟨0, [(6, avb false)], []⟩, ?_, .inr ⟨by simp, .inr ⟨rfl, ?_, rfl⟩⟩⟩
     ·simp -implicitDefEqProofs [x506L1, hlt, hget, g0, hv, hvv, hcb]
     ·unfold heldOf; rw [List.all_eq_false]; exact ⟨v, hmem, by rw [g]; simp⟩
   ·have hvf : valOf S v = false := by simpa using hvv
    refine ⟨.ret, ⟨0, [(6, avb false)], []⟩, ?_, .inr ⟨by simp, .inr ⟨rfl, ?_, rfl⟩⟩⟩
    ·simp -implicitDefEqProofs [x506L1, hlt, hget, g0, hv, hvf]
    ·unfold heldOf; rw [List.all_eq_false]; exact ⟨v, hmem, by simp [hvf]⟩
  ·have : i = l.length := by omega
   subst this
   rw [List.take_length] at hall
   refine ⟨.exit 0, _, ?_, .inr ⟨by simp, .inl ⟨rfl, hall, rfl⟩⟩⟩
   simp -implicitDefEqProofs [x506L1, hlen]
 obtain ⟨e, s', l1, _, ⟨rfl, hh, rfl⟩ | ⟨rfl, hh, rfl⟩⟩ := loop
 ·rw [zbr code ext h2, hh]
  simp -implicitDefEqProofs [x506, l1]
 ·rw [zbr code ext h2, hh]
  simp -implicitDefEqProofs [x506, l1]
end
end Go.EX


set_option linter.unusedVariables false
set_option linter.unusedSimpArgs false
namespace Go.EX
def sAt (S : List Obj) (i : Nat) : ByteArray := match S[i]? with
 | some o => o.s
 | none => .empty
def sameOf (S : List Obj) (a b : Val) : Bool :=
 if a.k ≠ b.k then false else if a.k = 0 then true else if a.n = b.n then true else if a.k = 3 then
  match leadsOf S a, leadsOf S b with
  | some i, some j => decide (sAt S i = sAt S j)
  | _, _ => false
 else false
def KeysOk (S : List Obj) (l : List Val) : Prop := ∀ (i k : Nat) (a b : Val), i % 2 = 0 → k % 2 = 0 → k < i → l[i]? = some a → l[k]? = some b → sameOf S a b = false
section
variable {code : Nat → Option XFun} {ext : Calls'}
theorem zpp (h : code 502 = some x502) (h' : code 503 = some x503) {sv : IV} {S : List Obj} (hr : Reads tObj sv S) (a b : Val) (c3 : a.k = 3) (c3' : b.k = 3) (cn : ¬ a.n = b.n) :
  callW code ext 503 [.imm sv, .agg [.imm (.val (.int .u8 3)), int64 a.n], .agg [.imm (.val (.int .u8 3)), int64 b.n]] [] = some (avb (sameOf S a b), []) := by
 rw [zbr code ext h']
 have ha := zh5 (ext := ext) h hr a
 have hb := zh5 (ext := ext) h hr b
 unfold leadInt at ha hb
 rw [c3] at ha
 rw [c3'] at hb
 have hso : sameOf S a b = match leadsOf S a, leadsOf S b with
  | some i, some j => decide (sAt S i = sAt S j)
  | _, _ => false := by
  unfold sameOf
  rw [if_neg (by rw [c3, c3']; simp), if_neg (by omega), if_neg cn, if_pos c3]
 rw [hso]
 clear hso
 cases hqa : leadsOf S a with
 | none =>
  rw [hqa] at ha
  cases hqb : leadsOf S b with
  | none => rw [hqb] at hb; simp -implicitDefEqProofs [x503, cn, ha, hb]
  | some j => rw [hqb] at hb; simp -implicitDefEqProofs [x503, cn, ha, hb]
 | some i =>
  rw [hqa] at ha
  have hi0 : (0 : Int) ≤ i := by omega
  cases hqb : leadsOf S b with
  | none => rw [hqb] at hb; simp -implicitDefEqProofs [x503, cn, ha, hb, hi0]
  | some j =>
   rw [hqb] at hb
   have hj0 : (0 : Int) ≤ j := by omega
   obtain ⟨hil, _, _, _, o, ho, _⟩ := zh1 hqa
   obtain ⟨hjl, _, _, _, p, hp, _⟩ := zh1 hqb
   obtain ⟨row, off, cap, rfl, hc, hcut, hget⟩ := zmt hr ho
   obtain ⟨row', off', cap', he, _, _, hget'⟩ := zmt hr hp
   cases he
   simp only [tObj] at hget hget'
   have g1 : row[off + i * 5 + 1]? = some (.val (.string o.s)) := zcy hget 1 (by omega)
   have g1' : row[off + j * 5 + 1]? = some (.val (.string p.s)) := zcy hget' 1 (by omega)
   have hsi : sAt S i = o.s := by unfold sAt; rw [ho]
   have hsj : sAt S j = p.s := by unfold sAt; rw [hp]
   simp -implicitDefEqProofs [x503, cn, ha, hb, hi0, hj0, hil, hjl, g1, g1', hsi, hsj]
theorem zpo (h : code 502 = some x502) (h' : code 503 = some x503) {sv : IV} {S : List Obj} (hr : Reads tObj sv S) (a b : Val) :
  callW code ext 503 [.imm sv, .agg [.imm (.val (.int .u8 a.k)), int64 a.n], .agg [.imm (.val (.int .u8 b.k)), int64 b.n]] [] = some (avb (sameOf S a b), []) := by
 by_cases c1 : a.k = b.k
 case neg =>
  rw [zbr code ext h']
  simp -implicitDefEqProofs [x503, sameOf, c1]
 by_cases c0 : a.k = 0
 ·have c0' : b.k = 0 := by omega
  rw [zbr code ext h']
  simp -implicitDefEqProofs [x503, sameOf, c0, c0']
 have c0b : ¬ b.k = 0 := by omega
 by_cases cn : a.n = b.n
 ·rw [zbr code ext h']
  simp -implicitDefEqProofs [x503, sameOf, c1, cn, c0b]
 by_cases c3 : a.k = 3
 ·rw [c3, show b.k = 3 by omega]
  exact zpp h h' hr a b c3 (by omega) cn
 ·have c3' : ¬ b.k = 3 := by omega
  have ha := zh5 (ext := ext) h hr a
  have hb := zh5 (ext := ext) h hr b
  have hso : sameOf S a b = false := by
   unfold sameOf
   rw [if_neg (by simp [c1]), if_neg c0, if_neg cn, if_neg c3]
  rw [hso, zbr code ext h']
  rw [c1] at ha ⊢
  simp -implicitDefEqProofs [x503, c0b, cn, c3', ha, hb]
theorem zmy (h : code 502 = some x502) (h' : code 503 = some x503) (h2 : code 507 = some x507) {sv lv : IV} {S : List Obj} {l : List Val} (hr : Reads tObj sv S) (hl : Reads tVal lv l) :
  ∃ b : Bool, callW code ext 507 [.imm sv, .imm lv] [] = some (avb b, []) ∧ (b = true ↔ KeysOk S l) := by
 have hlen := zms hl
 have hb := hl.2.1
 have inner : ∀ i : Nat, i < l.length → i % 2 = 0 → ∃ e s', den code ext (.loop [0, 1, 5, 6] x507L1) ⟨0, [(0, .imm sv), (1, .imm lv), (5, int64 (i : Nat)), (6, int64 0)], []⟩ = some (e, s') ∧ e ≠ .normal ∧
   ((e = .exit 2 ∧ (∀ k b, k % 2 = 0 → k < i → l[k]? = some b → sameOf S (l[i]?.getD zVal) b = false) ∧ ∃ q : Nat, s' = ⟨0, [(0, .imm sv), (1, .imm lv), (5, int64 (i : Nat)), (6, int64 (q : Nat)), (15, avb false)], []⟩) ∨
    (e = .ret ∧ (∃ k b, k % 2 = 0 ∧ k < i ∧ l[k]? = some b ∧ sameOf S (l[i]?.getD zVal) b = true) ∧ s' = ⟨0, [(4, avb false)], []⟩)) := by
  intro i hi hie
  refine zir (fun n s => ∃ (k : Nat), k % 2 = 0 ∧ n + k = l.length + 2 ∧ k < l.length + 2 ∧ (∀ q b, q % 2 = 0 → q < k → l[q]? = some b → sameOf S (l[i]?.getD zVal) b = false ∨ i ≤ q) ∧ s = ⟨0, [(0, .imm sv), (1, .imm lv), (5, int64 (i : Nat)), (6, int64 (k : Nat))], []⟩) _ ?_ (l.length + 2) _ ⟨0, rfl, by omega, by omega, fun q b _ h => by omega, rfl⟩
  rintro n _ ⟨k, hke, hn, hkl, hall, rfl⟩
  by_cases hlt : k < i
  ·have hlk : k < l.length := by omega
   obtain ⟨row, off, cap, rfl, hc, hcut, hget⟩ := zmt hl (List.getElem?_eq_getElem hlk)
   obtain ⟨row', off', cap', he, _, _, hget'⟩ := zmt hl (List.getElem?_eq_getElem hi)
   cases he
   have e1 : IntKind.wrap .i64 ((k : Int) + 2) = (k : Int) + 2 := wrapI64 (by omega) (by omega)
   have hlt' : (k : Int) < i := by omega
   have hki := List.getElem?_eq_getElem hi
   have hkk := List.getElem?_eq_getElem hlk
   rw [hki] at hall ⊢
   simp only [Option.getD_some] at hall ⊢
   have hs := zpo (ext := ext) h h' hr l[i] l[k]
   generalize l[i] = a at *
   generalize hbk : l[k] = b at *
   simp only [tVal] at hget hget'
   cases hsm : sameOf S a b with
   | true =>
    rw [hsm] at hs
    refine ⟨.ret, ⟨0, [(4, avb false)], []⟩, ?_, .inr ⟨by simp, .inr ⟨rfl, ⟨k, b, hke, hlt, hkk, hsm⟩, rfl⟩⟩⟩
    simp -implicitDefEqProofs [x507L1, hlt, hi, hlk, hget, hget', hs]
   | false =>
    rw [hsm] at hs
    refine ⟨.normal, ⟨0, [(0, .imm sv), (1, .imm (.slice row off l.length cap)), (5, int64 (i : Nat)), (6, int64 ((k : Int) + 2))], []⟩, ?_, .inl ⟨rfl, n - 2, by omega, k + 2, by omega, by omega, by omega, fun q c hq hqk hc => ?_, rfl⟩⟩
    ·simp -implicitDefEqProofs [x507L1, hlt, hi, hlk, hget, hget', hs, e1]
    ·by_cases hqk' : q < k
     ·exact hall q c hq hqk' hc
     ·have : q = k := by omega
      subst this
      rw [hkk] at hc; cases hc
      exact .inl hsm
  ·refine ⟨.exit 2, ⟨0, [(0, .imm sv), (1, .imm lv), (5, int64 (i : Nat)), (6, int64 (k : Nat)), (15, avb false)], []⟩, ?_, .inr ⟨by simp, .inl ⟨rfl, fun q b hq hqi hb => ?_, k, rfl⟩⟩⟩
   ·have : ¬ ((k : Int) < i) := by omega
    simp -implicitDefEqProofs [x507L1, this]
   ·rcases hall q b hq (by omega) hb with h | h
    ·exact h
    ·omega
 have outer : ∃ e s', den code ext (.loop [0, 1, 5] x507L2) ⟨0, [(0, .imm sv), (1, .imm lv), (5, int64 0)], []⟩ = some (e, s') ∧ e ≠ .normal ∧
   ((e = .exit 0 ∧ KeysOk S l ∧ s'.k = 0 ∧ s'.mem = []) ∨ (e = .ret ∧ ¬ KeysOk S l ∧ s' = ⟨0, [(4, avb false)], []⟩)) := by
  refine zir (fun n s => ∃ (i : Nat), i % 2 = 0 ∧ n + i = l.length + 2 ∧ i < l.length + 2 ∧ (∀ (j k : Nat) (a b : Val), j % 2 = 0 → k % 2 = 0 → k < j → j < i → l[j]? = some a → l[k]? = some b → sameOf S a b = false) ∧ s = ⟨0, [(0, .imm sv), (1, .imm lv), (5, int64 (i : Nat))], []⟩) _ ?_ (l.length + 2) _ ⟨0, rfl, by omega, by omega, fun j k a b _ _ _ h => by omega, rfl⟩
  rintro n _ ⟨i, hie, hn, hil, hall, rfl⟩
  by_cases hlt : i < l.length
  ·have e1 : IntKind.wrap .i64 ((i : Int) + 2) = (i : Int) + 2 := wrapI64 (by omega) (by omega)
   have hki := List.getElem?_eq_getElem hlt
   obtain ⟨e, s', g1, _, ⟨rfl, hin, q, rfl⟩ | ⟨rfl, ⟨k, b, hke, hk, hkb, hsm⟩, rfl⟩⟩ := inner i hlt hie
   ·rw [hki] at hin
    refine ⟨.normal, ⟨0, [(0, .imm sv), (1, .imm lv), (5, int64 ((i : Int) + 2))], []⟩, ?_, .inl ⟨rfl, n - 2, by omega, i + 2, by omega, by omega, by omega, fun j k a b hj hk hkj hji ha hb => ?_, rfl⟩⟩
    ·simp -implicitDefEqProofs [x507L2, hlen, hlt, g1, e1]
    ·by_cases hji' : j < i
     ·exact hall j k a b hj hk hkj hji' ha hb
     ·have : j = i := by omega
      subst this
      rw [hki] at ha; cases ha
      exact hin k b hk hkj hb
   ·rw [hki] at hsm
    refine ⟨.ret, ⟨0, [(4, avb false)], []⟩, ?_, .inr ⟨by simp, .inr ⟨rfl, fun hk' => ?_, rfl⟩⟩⟩
    ·simp -implicitDefEqProofs [x507L2, hlen, hlt, g1]
    ·have := hk' i k _ b hie hke hk hki hkb
     simp only [Option.getD_some] at hsm
     rw [this] at hsm; cases hsm
  ·refine ⟨.exit 0, ⟨0, [(0, .imm sv), (1, .imm lv), (5, int64 (i : Nat)), (10, avb false)], []⟩, ?_, .inr ⟨by simp, .inl ⟨rfl, fun j k a b hj hk hkj ha hb => ?_, rfl, rfl⟩⟩⟩
   ·have : ¬ ((i : Int) < l.length) := by omega
    simp -implicitDefEqProofs [x507L2, hlen, this]
   ·exact hall j k a b hj hk hkj (by have := (List.getElem?_eq_some_iff.1 ha).1; omega) ha hb
 obtain ⟨e, s', g1, _, ⟨rfl, hk, h3, h4⟩ | ⟨rfl, hk, rfl⟩⟩ := outer
 ·refine ⟨true, ?_, by simp [hk]⟩
  rw [zbr code ext h2]
  simp -implicitDefEqProofs [x507, g1, h3, h4]
 ·refine ⟨false, ?_, by simp [hk]⟩
  rw [zbr code ext h2]
  simp -implicitDefEqProofs [x507, g1]
end
end Go.EX


set_option linter.unusedVariables false
set_option linter.unusedSimpArgs false
namespace Go.EX
def ObjOk (S : List Obj) (o : Obj) : Prop :=
 if o.k = 3 then o.s.size ≤ 4096 ∧ o.l.xs = [] ∧ o.room = 0 ∧ o.fn = 0
 else if o.k = 4 then o.s = .empty ∧ o.fn = 0 ∧ (o.l.xs.length : Int) ≤ 65536 ∧ (o.l.xs.length : Int) ≤ o.room ∧ o.room ≤ 262144 ∧ heldOf S o.l.xs false = true
 else if o.k = 5 then o.s = .empty ∧ o.fn = 0 ∧ (o.l.xs.length : Int).tmod 2 = 0 ∧ (o.l.xs.length : Int) ≤ 131072 ∧ (o.l.xs.length : Int) ≤ o.room ∧ o.room ≤ 262144 ∧ heldOf S o.l.xs false = true ∧ KeysOk S o.l.xs
 else if o.k = 6 then o.s = .empty ∧ o.room = 0 ∧ 0 ≤ o.fn ∧ o.fn < 256 ∧ heldOf S o.l.xs true = true
 else o.s = .empty ∧ o.room = 0 ∧ o.fn = 0 ∧ (o.l.xs.length : Int) = 1 ∧ heldOf S o.l.xs false = true
abbrev objAV (o : Obj) : AV := .agg [.imm (.val (.int .u8 o.k)), .imm (.val (.string o.s)), .imm o.l.iv, int64 o.room, int64 o.fn]
section
variable {code : Nat → Option XFun} {ext : Calls'}
theorem refObj3 (h : code 502 = some x502) (h' : code 510 = some x510) (h2 : code 506 = some x506) (h3 : code 503 = some x503) (h4 : code 507 = some x507) (h5 : code 508 = some x508) {sv : IV} {S : List Obj} (hr : Reads tObj sv S) (o : Obj) (k3 : o.k = 3) : ∃ b : Bool, callW code ext 508 [.imm sv, objAV o] [] = some (avb b, []) ∧ (b = true ↔ ObjOk S o) := by
 rw [zbr code ext h5]
 have hlen := zms o.l.ok
 have hok : ObjOk S o ↔ (o.s.size ≤ 4096 ∧ o.l.xs = [] ∧ o.room = 0 ∧ o.fn = 0) := by
  unfold ObjOk
  rw [if_pos k3]
 rw [hok]
 clear hok
 by_cases c1 : (o.s.size : Int) ≤ 4096
 case neg => exact ⟨false, by simp -implicitDefEqProofs [x508, k3, hlen, c1], by simp [c1, show ¬ o.s.size ≤ 4096 by omega]⟩
 by_cases c2 : o.l.xs = []
 case neg => exact ⟨false, by simp -implicitDefEqProofs [x508, k3, hlen, c1, c2], by simp [c1, c2]⟩
 by_cases c3 : o.room = 0
 case neg => exact ⟨false, by simp -implicitDefEqProofs [x508, k3, hlen, c1, c2, c3], by simp [c1, c2, c3]⟩
 by_cases c4 : o.fn = 0
 case neg => exact ⟨false, by simp -implicitDefEqProofs [x508, k3, hlen, c1, c2, c3, c4], by simp [c1, c2, c3, c4]⟩
 exact ⟨true, by simp -implicitDefEqProofs [x508, k3, hlen, c1, c2, c3, c4], by simp [c1, c2, c3, c4, show o.s.size ≤ 4096 by omega]⟩
theorem refObj4 (h : code 502 = some x502) (h' : code 510 = some x510) (h2 : code 506 = some x506) (h3 : code 503 = some x503) (h4 : code 507 = some x507) (h5 : code 508 = some x508) {sv : IV} {S : List Obj} (hr : Reads tObj sv S) (o : Obj) (k4 : o.k = 4) : ∃ b : Bool, callW code ext 508 [.imm sv, objAV o] [] = some (avb b, []) ∧ (b = true ↔ ObjOk S o) := by
 rw [zbr code ext h5]
 have hlen := zms o.l.ok
 have hok : ObjOk S o ↔ (o.s = .empty ∧ o.fn = 0 ∧ (o.l.xs.length : Int) ≤ 65536 ∧ (o.l.xs.length : Int) ≤ o.room ∧ o.room ≤ 262144 ∧ heldOf S o.l.xs false = true) := by
  unfold ObjOk
  rw [if_neg (by omega), if_pos k4]
 rw [hok]
 clear hok
 have hh := zmx (ext := ext) h h' h2 hr o.l.ok false
 by_cases c1 : o.s = .empty
 case neg => exact ⟨false, by simp -implicitDefEqProofs [x508, k4, hlen, hh, c1], by simp [c1]⟩
 by_cases c2 : o.fn = 0
 case neg => exact ⟨false, by simp -implicitDefEqProofs [x508, k4, hlen, hh, c1, c2], by simp [c1, c2]⟩
 by_cases c3 : (o.l.xs.length : Int) ≤ 65536
 case neg => exact ⟨false, by simp -implicitDefEqProofs [x508, k4, hlen, hh, c1, c2, c3], by simp [c1, c2, c3]⟩
 by_cases c4 : (o.l.xs.length : Int) ≤ o.room
 case neg => exact ⟨false, by simp -implicitDefEqProofs [x508, k4, hlen, hh, c1, c2, c3, c4], by simp [c1, c2, c3, c4]⟩
 by_cases c5 : o.room ≤ 262144
 case neg => exact ⟨false, by simp -implicitDefEqProofs [x508, k4, hlen, hh, c1, c2, c3, c4, c5], by simp [c1, c2, c3, c4, c5]⟩
 by_cases c6 : heldOf S o.l.xs false = true
 case neg =>
  have c6f : heldOf S o.l.xs false = false := by simpa using c6
  exact ⟨false, by simp -implicitDefEqProofs [x508, k4, hlen, hh, c1, c2, c3, c4, c5, c6f], by simp [c1, c2, c3, c4, c5, c6f]⟩
 exact ⟨true, by simp -implicitDefEqProofs [x508, k4, hlen, hh, c1, c2, c3, c4, c5, c6], by simp [c1, c2, c3, c4, c5, c6]⟩
set_option maxHeartbeats 1000000 in
theorem refObj5 (h : code 502 = some x502) (h' : code 510 = some x510) (h2 : code 506 = some x506) (h3 : code 503 = some x503) (h4 : code 507 = some x507) (h5 : code 508 = some x508) {sv : IV} {S : List Obj} (hr : Reads tObj sv S) (o : Obj) (k5 : o.k = 5) : ∃ b : Bool, callW code ext 508 [.imm sv, objAV o] [] = some (avb b, []) ∧ (b = true ↔ ObjOk S o) := by
 rw [zbr code ext h5]
 have hlen := zms o.l.ok
 have hok : ObjOk S o ↔ (o.s = .empty ∧ o.fn = 0 ∧ (o.l.xs.length : Int).tmod 2 = 0 ∧ (o.l.xs.length : Int) ≤ 131072 ∧ (o.l.xs.length : Int) ≤ o.room ∧ o.room ≤ 262144 ∧ heldOf S o.l.xs false = true ∧ KeysOk S o.l.xs) := by
  unfold ObjOk
  rw [if_neg (by omega), if_neg (by omega), if_pos k5]
 rw [hok]
 clear hok
 have hh := zmx (ext := ext) h h' h2 hr o.l.ok false
 obtain ⟨bk, hkk, hkb⟩ := zmy (ext := ext) h h3 h4 hr o.l.ok
 by_cases c1 : o.s = .empty
 case neg => exact ⟨false, by simp -implicitDefEqProofs [x508, k5, hlen, hh, hkk, c1], by simp [c1]⟩
 by_cases c2 : o.fn = 0
 case neg => exact ⟨false, by simp -implicitDefEqProofs [x508, k5, hlen, hh, hkk, c1, c2], by simp [c1, c2]⟩
 by_cases c3 : (o.l.xs.length : Int).tmod 2 = 0
 case neg => exact ⟨false, by simp -implicitDefEqProofs [x508, k5, hlen, hh, hkk, c1, c2, c3], by simp [c1, c2, c3]⟩
 by_cases c4 : (o.l.xs.length : Int) ≤ 131072
 case neg => exact ⟨false, by simp -implicitDefEqProofs [x508, k5, hlen, hh, hkk, c1, c2, c3, c4], by simp [c1, c2, c3, c4]⟩
 by_cases c5 : (o.l.xs.length : Int) ≤ o.room
 case neg => exact ⟨false, by simp -implicitDefEqProofs [x508, k5, hlen, hh, hkk, c1, c2, c3, c4, c5], by simp [c1, c2, c3, c4, c5]⟩
 by_cases c6 : o.room ≤ 262144
 case neg => exact ⟨false, by simp -implicitDefEqProofs [x508, k5, hlen, hh, hkk, c1, c2, c3, c4, c5, c6], by simp [c1, c2, c3, c4, c5, c6]⟩
 by_cases c7 : heldOf S o.l.xs false = true
 case neg =>
  have c7f : heldOf S o.l.xs false = false := by simpa using c7
  exact ⟨false, by simp -implicitDefEqProofs [x508, k5, hlen, hh, hkk, c1, c2, c3, c4, c5, c6, c7f], by simp [c1, c2, c3, c4, c5, c6, c7f]⟩
 refine ⟨bk, ?_, by rw [hkb]; simp [c1, c2, c3, c4, c5, c6, c7]⟩
 simp -implicitDefEqProofs [x508, k5, hlen, hh, hkk, c1, c2, c3, c4, c5, c6, c7]
theorem refObj6 (h : code 502 = some x502) (h' : code 510 = some x510) (h2 : code 506 = some x506) (h3 : code 503 = some x503) (h4 : code 507 = some x507) (h5 : code 508 = some x508) {sv : IV} {S : List Obj} (hr : Reads tObj sv S) (o : Obj) (k6 : o.k = 6) : ∃ b : Bool, callW code ext 508 [.imm sv, objAV o] [] = some (avb b, []) ∧ (b = true ↔ ObjOk S o) := by
 rw [zbr code ext h5]
 have hlen := zms o.l.ok
 have hok : ObjOk S o ↔ (o.s = .empty ∧ o.room = 0 ∧ 0 ≤ o.fn ∧ o.fn < 256 ∧ heldOf S o.l.xs true = true) := by
  unfold ObjOk
  rw [if_neg (by omega), if_neg (by omega), if_neg (by omega), if_pos k6]
 rw [hok]
 clear hok
 have hh := zmx (ext := ext) h h' h2 hr o.l.ok true
 by_cases c1 : o.s = .empty
 case neg => exact ⟨false, by simp -implicitDefEqProofs [x508, k6, hlen, hh, c1], by simp [c1]⟩
 by_cases c2 : o.room = 0
 case neg => exact ⟨false, by simp -implicitDefEqProofs [x508, k6, hlen, hh, c1, c2], by simp [c1, c2]⟩
 by_cases c3 : 0 ≤ o.fn
 case neg => exact ⟨false, by simp -implicitDefEqProofs [x508, k6, hlen, hh, c1, c2, c3], by simp [c1, c2, c3]⟩
 by_cases c4 : o.fn < 256
 case neg => exact ⟨false, by simp -implicitDefEqProofs [x508, k6, hlen, hh, c1, c2, c3, c4], by simp [c1, c2, c3, c4]⟩
 by_cases c5 : heldOf S o.l.xs true = true
 case neg =>
  have c5f : heldOf S o.l.xs true = false := by simpa using c5
  exact ⟨false, by simp -implicitDefEqProofs [x508, k6, hlen, hh, c1, c2, c3, c4, c5f], by simp [c1, c2, c3, c4, c5f]⟩
 exact ⟨true, by simp -implicitDefEqProofs [x508, k6, hlen, hh, c1, c2, c3, c4, c5], by simp [c1, c2, c3, c4, c5]⟩
theorem refObj7 (h : code 502 = some x502) (h' : code 510 = some x510) (h2 : code 506 = some x506) (h3 : code 503 = some x503) (h4 : code 507 = some x507) (h5 : code 508 = some x508) {sv : IV} {S : List Obj} (hr : Reads tObj sv S) (o : Obj) (k3 : ¬ o.k = 3) (k4 : ¬ o.k = 4) (k5 : ¬ o.k = 5) (k6 : ¬ o.k = 6) : ∃ b : Bool, callW code ext 508 [.imm sv, objAV o] [] = some (avb b, []) ∧ (b = true ↔ ObjOk S o) := by
 rw [zbr code ext h5]
 have hlen := zms o.l.ok
 have hok : ObjOk S o ↔ (o.s = .empty ∧ o.room = 0 ∧ o.fn = 0 ∧ (o.l.xs.length : Int) = 1 ∧ heldOf S o.l.xs false = true) := by
  unfold ObjOk
  rw [if_neg k3, if_neg k4, if_neg k5, if_neg k6]
 rw [hok]
 clear hok
 have hh := zmx (ext := ext) h h' h2 hr o.l.ok false
 by_cases c1 : o.s = .empty
 case neg => exact ⟨false, by simp -implicitDefEqProofs [x508, k3, k4, k5, k6, hlen, hh, c1], by simp [c1]⟩
 by_cases c2 : o.room = 0
 case neg => exact ⟨false, by simp -implicitDefEqProofs [x508, k3, k4, k5, k6, hlen, hh, c1, c2], by simp [c1, c2]⟩
 by_cases c3 : o.fn = 0
 case neg => exact ⟨false, by simp -implicitDefEqProofs [x508, k3, k4, k5, k6, hlen, hh, c1, c2, c3], by simp [c1, c2, c3]⟩
 by_cases c4 : (o.l.xs.length : Int) = 1
 case neg => exact ⟨false, by simp -implicitDefEqProofs [x508, k3, k4, k5, k6, hlen, hh, c1, c2, c3, c4], by simp [c1, c2, c3, c4]⟩
 by_cases c5 : heldOf S o.l.xs false = true
 case neg =>
  have c5f : heldOf S o.l.xs false = false := by simpa using c5
  exact ⟨false, by simp -implicitDefEqProofs [x508, k3, k4, k5, k6, hlen, hh, c1, c2, c3, c4, c5f], by simp [c1, c2, c3, c4, c5f]⟩
 exact ⟨true, by simp -implicitDefEqProofs [x508, k3, k4, k5, k6, hlen, hh, c1, c2, c3, c4, c5], by simp [c1, c2, c3, c4, c5]⟩
theorem zmz (h : code 502 = some x502) (h' : code 510 = some x510) (h2 : code 506 = some x506) (h3 : code 503 = some x503) (h4 : code 507 = some x507) (h5 : code 508 = some x508) {sv : IV} {S : List Obj} (hr : Reads tObj sv S) (o : Obj) : ∃ b : Bool, callW code ext 508 [.imm sv, objAV o] [] = some (avb b, []) ∧ (b = true ↔ ObjOk S o) := by
 by_cases k3 : o.k = 3
 ·exact refObj3 h h' h2 h3 h4 h5 hr o k3
 by_cases k4 : o.k = 4
 ·exact refObj4 h h' h2 h3 h4 h5 hr o k4
 by_cases k5 : o.k = 5
 ·exact refObj5 h h' h2 h3 h4 h5 hr o k5
 by_cases k6 : o.k = 6
 ·exact refObj6 h h' h2 h3 h4 h5 hr o k6
 exact refObj7 h h' h2 h3 h4 h5 hr o k3 k4 k5 k6
end
end Go.EX


set_option linter.unusedVariables false
set_option linter.unusedSimpArgs false
namespace Go.EX
def CheckOk (S : List Obj) (v : Val) : Prop := valOf S v = true ∧ ∀ (k : Nat) (o : Obj), Reach S [v] k → S[k]? = some o → ObjOk S o
section
variable {code : Nat → Option XFun} {ext : Calls'}
theorem zmw (h : code 502 = some x502) (h' : code 510 = some x510) (h2 : code 506 = some x506) (h3 : code 503 = some x503) (h4 : code 507 = some x507) (h5 : code 508 = some x508) (h6 : code 509 = some x509) (h7 : code 500 = some x500)
  {sv : IV} {S : List Obj} (hr : Reads tObj sv S) (v : Val) (hw : tVal.wf v) (hM : 1 + unm (List.replicate S.length false) S ≤ 100000000) (hS : S.length ≤ 1048576) :
  ∃ b : Bool, callW code ext 500 [.imm sv, .agg [.imm (.val (.int .u8 v.k)), int64 v.n]] [] = some (avb b, []) ∧ (b = true ↔ CheckOk S v) := by
 have hv := zm1 (ext := ext) h h' hr v
 rw [zbr code ext h7]
 cases hvv : valOf S v with
 | false =>
  rw [hvv] at hv
  exact ⟨false, by simp -implicitDefEqProofs [x500, hv], by simp [CheckOk, hvv]⟩
 | true =>
  rw [hvv] at hv
  have hq : Reads tVal (.slice [.val (.int .u8 v.k), .val (.int .i64 v.n)] 0 1 (some 1)) [v] := zmu tVal [v] (cap := some 1) (by simpa using hw) (by simp) (by simp)
  obtain ⟨F, hI, hre⟩ := zmq (ext := ext) h h6 hr hq (by simpa using hM) hS
  have hFl := hI.len
  have hpl : (tBool.row F).all IV.plain = true := by simp [Ty.row, tBool, List.all_flatMap, IV.plain]
  have loop : ∀ s0 : St, s0.tidy [0, 5, 6] = ⟨0, [(0, .imm sv), (5, .osl 0 0 1 S.length (some S.length)), (6, int64 0)], [.flat (tBool.row F) false]⟩ → ∃ e s', den code ext (.loop [0, 5, 6] x500L1) s0 = some (e, s') ∧ e ≠ .normal ∧
    ((e = .exit 0 ∧ (∀ (k : Nat) (o : Obj), F[k]? = some true → S[k]? = some o → ObjOk S o) ∧ s' = ⟨0, [(0, .imm sv), (5, .osl 0 0 1 S.length (some S.length)), (6, int64 S.length), (18, avb false)], [.flat (tBool.row F) false]⟩) ∨ (e = .ret ∧ (¬ ∀ (k : Nat) (o : Obj), F[k]? = some true → S[k]? = some o → ObjOk S o) ∧ s' = ⟨0, [(4, avb false)], [.flat (tBool.row F) false]⟩)) := by
   intro s0 hst0
   refine zir (fun n s => ∃ (i : Nat), i + n = S.length ∧ (∀ (k : Nat) (o : Obj), k < i → F[k]? = some true → S[k]? = some o → ObjOk S o) ∧ s.tidy [0, 5, 6] = ⟨0, [(0, .imm sv), (5, .osl 0 0 1 S.length (some S.length)), (6, int64 (i : Nat))], [.flat (tBool.row F) false]⟩) _ ?_ S.length _ ⟨0, by simp, fun k o h => by omega, hst0⟩
   clear hst0 s0
   rintro n s ⟨i, hi, hall, hst⟩
   rw [hst]
   by_cases hlt : i < S.length
   ·have hif : i < F.length := by omega
    obtain ⟨row, off, cap, hsv, hc, hcut, hget⟩ := zmt hr (List.getElem?_eq_getElem hlt)
    have hqf : (tBool.row F)[i]? = some (.val (.bool F[i])) := by
     have := zc1 (zfo (t := tBool) (List.getElem?_eq_getElem hif))
     rwa [show tBool.sz = 1 from rfl, Nat.mul_one] at this
    have e1 : IntKind.wrap .i64 ((i : Int) + 1) = (i : Int) + 1 := wrapI64 (by omega) (by omega)
    have hFi := List.getElem?_eq_getElem hif
    have hSi := List.getElem?_eq_getElem hlt
    obtain ⟨b, hob, hbo⟩ := zmz (ext := ext) h h' h2 h3 h4 h5 hr S[i]
    generalize S[i] = o at hget hSi hob hbo
    simp only [tObj] at hget
    have next : (F[i] = true → ObjOk S o) → ∀ (k : Nat) (o : Obj), k < i + 1 → F[k]? = some true → S[k]? = some o → ObjOk S o := by
     intro hn k p hk hFk hSk
     by_cases hki : k < i
     ·exact hall k p hki hFk hSk
     ·have : k = i := by omega
      subst this
      rw [hSi] at hSk; cases hSk
      exact hn (by rw [hFi] at hFk; simpa using hFk)
    cases hb : F[i] with
    | false =>
     rw [hb] at hqf
     refine ⟨.normal, ⟨0, [(0, .imm sv), (5, .osl 0 0 1 S.length (some S.length)), (6, int64 ((i : Int) + 1))], [.flat (tBool.row F) false]⟩, ?_, .inl ⟨rfl, n - 1, by omega, i + 1, by omega, next (by rw [hb]; simp), by simp -implicitDefEqProofs⟩⟩
     subst hsv
     simp -implicitDefEqProofs [x500L1, hif, hqf, hlt, e1]
    | true =>
     rw [hb] at hqf hFi
     cases hbb : b with
     | true =>
      rw [hbb] at hob hbo
      refine ⟨.normal, ⟨0, [(0, .imm sv), (5, .osl 0 0 1 S.length (some S.length)), (6, int64 ((i : Int) + 1))], [.flat (tBool.row F) false]⟩, ?_, .inl ⟨rfl, n - 1, by omega, i + 1, by omega, next (fun _ => hbo.1 rfl), by simp -implicitDefEqProofs⟩⟩
      subst hsv
      simp -implicitDefEqProofs [x500L1, hif, hqf, hlt, e1, hlt, hget, hob]
     | false =>
      rw [hbb] at hob hbo
      refine ⟨.ret, ⟨0, [(4, avb false)], [.flat (tBool.row F) false]⟩, ?_, .inr ⟨by simp, .inr ⟨rfl, fun hc => ?_, rfl⟩⟩⟩
      ·subst hsv
       simp -implicitDefEqProofs [x500L1, hif, hqf, hlt, e1, hlt, hget, hob]
      ·have := hbo.2 (hc i o hFi hSi)
       cases this
   ·have : i = S.length := by omega
    subst this
    refine ⟨.exit 0, _, ?_, .inr ⟨by simp, .inl ⟨rfl, fun k o hF hSo => hall k o (List.getElem?_eq_some_iff.1 hSo).1 hF hSo, rfl⟩⟩⟩
    simp -implicitDefEqProofs [x500L1]
  obtain ⟨e, s', l1, _, ⟨rfl, hall, rfl⟩ | ⟨rfl, hall, rfl⟩⟩ := loop ⟨0, [(0, .imm sv), (5, .osl 2 0 1 S.length (some S.length)), (6, int64 0)], [.rich [.imm (.val (.int .u8 v.k)), int64 v.n], .flat [.val (.int .u8 v.k), .val (.int .i64 v.n)] false, .flat (tBool.row F) false]⟩ (by simp -implicitDefEqProofs)
  ·refine ⟨true, ?_, ?_⟩
   ·simp -implicitDefEqProofs [x500, hv, hre, hpl, l1]
   ·simp only [CheckOk, hvv, true_and, true_iff]
    exact fun k o hk ho => hall k o ((hI.done k).2 hk) ho
  ·refine ⟨false, ?_, ?_⟩
   ·simp -implicitDefEqProofs [x500, hv, hre, hpl, l1]
   ·simp only [Bool.false_eq_true, CheckOk, hvv, true_and, false_iff]
    exact fun hc => hall fun k o hF ho => hc k o ((hI.done k).1 hF) ho
end
end Go.EX


set_option linter.unusedVariables false
set_option linter.unusedSimpArgs false
namespace Go.EX
section
variable {code : Nat → Option XFun} {ext : Calls'}
abbrev kindT : ByteArray := ⟨#[107, 105, 110, 100]⟩
def didV (k n : Int) (t : ByteArray) (w : Int) : AV := .agg [.imm (.val (.int .u8 k)), int64 n, strV t, int64 w]
theorem zg4 (h : code 558 = some x558) (n : Int) : ∃ m, callW code ext 558 [int64 n] [] = some (.agg [.imm (.val (.int .u8 2)), int64 n], m) := by
 refine mem_of ?_
 rw [zbr code ext h]
 simp -implicitDefEqProofs [x558]
theorem zbj (h : code 557 = some x557) (b : Bool) : ∃ m, callW code ext 557 [avb b] [] = some (.agg [.imm (.val (.int .u8 1)), int64 (if b then 1 else 0)], m) := by
 refine mem_of ?_
 rw [zbr code ext h]
 cases b <;> simp -implicitDefEqProofs [x557]
theorem zro (h : code 562 = some x562) (t : ByteArray) : ∃ m, callW code ext 562 [strV t] [] = some (didV 0 0 t 0, m) := by
 refine mem_of ?_
 rw [zbr code ext h]
 simp -implicitDefEqProofs [x562, didV]
theorem zfj (h : code 152 = some x152) {sv : IV} {v : Val} {b : Bool} (h5 : callW code ext 500 [.imm sv, .agg [.imm (.val (.int .u8 v.k)), int64 v.n]] [] = some (avb b, [])) :
  ∃ m, callW code ext 152 [.imm (.ptr [sv] 0), .imm (.slice [.val (.int .u8 v.k), .val (.int .i64 v.n)] 0 1 (some 1))] [] = some (avb (decide (v.k ≠ 7) && b), m) := by
 have loop : ∃ e s', den code ext (.loop [0, 1, 5] x152L1) ⟨0, [(0, .imm (.ptr [sv] 0)), (1, .imm (.slice [.val (.int .u8 v.k), .val (.int .i64 v.n)] 0 1 (some 1))), (5, int64 0)], []⟩ = some (e, s') ∧ e ≠ .normal ∧
   (((decide (v.k ≠ 7) && b) = true ∧ e = .exit 0 ∧ ∃ x y, s' = ⟨0, [(0, x), (1, y), (5, int64 1), (9, avb false)], []⟩) ∨ ((decide (v.k ≠ 7) && b) = false ∧ e = .ret ∧ s' = ⟨0, [(4, avb false)], []⟩)) := by
  refine zir (fun n s => (n = 1 ∧ s = ⟨0, [(0, .imm (.ptr [sv] 0)), (1, .imm (.slice [.val (.int .u8 v.k), .val (.int .i64 v.n)] 0 1 (some 1))), (5, int64 0)], []⟩) ∨ (n = 0 ∧ (decide (v.k ≠ 7) && b) = true ∧ s = ⟨0, [(0, .imm (.ptr [sv] 0)), (1, .imm (.slice [.val (.int .u8 v.k), .val (.int .i64 v.n)] 0 1 (some 1))), (5, int64 1)], []⟩)) _ ?_ 1 _ (.inl ⟨rfl, rfl⟩)
  have e10 : IntKind.wrap .i64 1 = 1 := rfl
  rintro n s (⟨rfl, rfl⟩ | ⟨rfl, hb, rfl⟩)
  ·by_cases k7 : v.k = 7
   ·refine ⟨.ret, ⟨0, [(4, avb false)], []⟩, ?_, .inr ⟨by simp, .inr ⟨by simp [k7], rfl, rfl⟩⟩⟩
    simp -implicitDefEqProofs [x152L1, k7]
   ·cases b with
    | false =>
     refine ⟨.ret, ⟨0, [(4, avb false)], []⟩, ?_, .inr ⟨by simp, .inr ⟨by simp, rfl, rfl⟩⟩⟩
     simp -implicitDefEqProofs [x152L1, k7, h5]
    | true =>
     refine ⟨.normal, ⟨0, [(0, .imm (.ptr [sv] 0)), (1, .imm (.slice [.val (.int .u8 v.k), .val (.int .i64 v.n)] 0 1 (some 1))), (5, int64 1)], []⟩, ?_, .inl ⟨rfl, 0, by omega, .inr ⟨rfl, by simp [k7], rfl⟩⟩⟩
     simp -implicitDefEqProofs [x152L1, k7, h5, e10]
  ·refine ⟨.exit 0, ⟨0, [(0, .imm (.ptr [sv] 0)), (1, .imm (.slice [.val (.int .u8 v.k), .val (.int .i64 v.n)] 0 1 (some 1))), (5, int64 1), (9, avb false)], []⟩, ?_, .inr ⟨by simp, .inl ⟨hb, rfl, _, _, rfl⟩⟩⟩
   simp -implicitDefEqProofs [x152L1]
 refine mem_of ?_
 rw [zbr code ext h]
 unfold x152
 generalize x152L1 = L at *
 obtain ⟨e, s', l1, _, ⟨hb, rfl, x, y, rfl⟩ | ⟨hb, rfl, rfl⟩⟩ := loop
 ·rw [hb]
  simp -implicitDefEqProofs [l1]
 ·rw [hb]
  simp -implicitDefEqProofs [l1]
theorem zjp (h : code 159 = some x159) (h1 : code 557 = some x557) (h2 : code 562 = some x562) {sv : IV} {v : Val} {b : Bool} (hf : ∃ m, callW code ext 152 [.imm (.ptr [sv] 0), .imm (.slice [.val (.int .u8 v.k), .val (.int .i64 v.n)] 0 1 (some 1))] [] = some (avb b, m)) :
  ∃ m, callW code ext 159 [.imm (.ptr [sv] 0), .agg [.imm (.val (.int .u8 v.k)), int64 v.n]] [] = some (if b = true ∧ v.k = 1 then didV 1 (if v.n = 0 then 1 else 0) .empty 0 else didV 0 0 kindT 0, m) := by
 obtain ⟨m1, hf⟩ := hf
 obtain ⟨m2, ht⟩ := zro (ext := ext) h2 kindT
 refine mem_of ?_
 rw [zbr code ext h]
 unfold didV at *
 cases b with
 | false => simp -implicitDefEqProofs [x159, hf, ht]
 | true =>
  by_cases k1 : v.k = 1
  ·by_cases hn : v.n = 0
   ·obtain ⟨m3, hb⟩ := zbj (ext := ext) h1 true
    simp only [if_true] at hb
    rw [k1, hn] at hf
    simp -implicitDefEqProofs [x159, hf, k1, hn, hb]
   ·obtain ⟨m3, hb⟩ := zbj (ext := ext) h1 false
    simp only [Bool.false_eq_true, if_false] at hb
    rw [k1] at hf
    simp -implicitDefEqProofs [x159, hf, k1, hn, hb]
  ·simp -implicitDefEqProofs [x159, hf, ht, k1]
theorem zjb (h : code 158 = some x158) (h1 : code 558 = some x558) (h2 : code 562 = some x562) {hp : AV} (hi : ∃ x, hp = .imm x) (v : Val) :
  ∃ m, callW code ext 158 [hp, .agg [.imm (.val (.int .u8 v.k)), int64 v.n]] [] = some (if v.k = 2 then didV 2 (IntKind.wrap .i64 (-v.n)) .empty 0 else didV 0 0 kindT 0, m) := by
 obtain ⟨m2, ht⟩ := zro (ext := ext) h2 kindT
 obtain ⟨m3, hb⟩ := zg4 (ext := ext) h1 (IntKind.wrap .i64 (-v.n))
 obtain ⟨x, rfl⟩ := hi
 refine mem_of ?_
 rw [zbr code ext h]
 unfold didV at *
 by_cases k2 : v.k = 2
 ·simp -implicitDefEqProofs [x158, k2, hb]
 ·simp -implicitDefEqProofs [x158, ht, k2]
end
end Go.EX


set_option linter.unusedVariables false
set_option linter.unusedSimpArgs false
namespace Go.EX
section
variable {code : Nat → Option XFun} {ext : Calls'}
theorem znr (h : code 166 = some x166) {sv : IV} {S : List Obj} (hr : Reads tObj sv S) {v : Val} {k : Nat} {o : Obj} (hk : (k : Int) = v.n - 1) (ho : S[k]? = some o) :
  ∃ m, callW code ext 166 [.imm (.ptr [sv] 0), .agg [.imm (.val (.int .u8 v.k)), int64 v.n]] [] = some (.agg [.imm (.val (.int .u8 o.k)), strV o.s, .imm o.l.iv, int64 o.room, int64 o.fn], m) := by
 obtain ⟨row, off, cap, rfl, hc, hcut, hget⟩ := zmt hr ho
 simp only [tObj] at hget
 have hks := (List.getElem?_eq_some_iff.1 ho).1
 have hb := hr.2.1
 have e1 : IntKind.wrap .i64 (v.n - 1) = (k : Nat) := by rw [← hk]; exact wrapI64 (by omega) (by omega)
 have h2 : (k : Int) < S.length := by omega
 refine mem_of ?_
 rw [zbr code ext h]
 simp -implicitDefEqProofs [x166, e1, hks, h2, hget]
def lenR (S : List Obj) (v : Val) : AV := match objOf S v with
 | some o => if v.k = 3 then didV 2 o.s.size .empty 0 else if v.k = 4 then didV 2 o.l.xs.length .empty 0 else if v.k = 5 then didV 2 (o.l.xs.length / 2 : Nat) .empty 0 else didV 0 0 kindT 0
 | none => didV 0 0 kindT 0
theorem zif (h : code 155 = some x155) (h1 : code 558 = some x558) (h2 : code 562 = some x562) (h3 : code 166 = some x166) {sv : IV} {S : List Obj} (hr : Reads tObj sv S) {v : Val} {b : Bool}
  (hf : ∃ m, callW code ext 152 [.imm (.ptr [sv] 0), .imm (.slice [.val (.int .u8 v.k), .val (.int .i64 v.n)] 0 1 (some 1))] [] = some (avb b, m)) (hb : b = true → 3 ≤ v.k → v.k ≤ 5 → ∃ k, leadsOf S v = some k) :
  ∃ m, callW code ext 155 [.imm (.ptr [sv] 0), .agg [.imm (.val (.int .u8 v.k)), int64 v.n]] [] = some (if b = true then lenR S v else didV 0 0 kindT 0, m) := by
 obtain ⟨m1, hf⟩ := hf
 obtain ⟨m2, ht⟩ := zro (ext := ext) h2 kindT
 refine mem_of ?_
 rw [zbr code ext h]
 cases b with
 | false =>
  unfold didV at *
  simp -implicitDefEqProofs [x155, hf, ht]
 | true =>
  unfold lenR objOf
  by_cases hk : 3 ≤ v.k ∧ v.k ≤ 5
  ·obtain ⟨k, hl⟩ := hb rfl hk.1 hk.2
   obtain ⟨_, hkn, _, _, o, ho, _⟩ := zh1 hl
   obtain ⟨m3, hob⟩ := znr (ext := ext) h3 hr hkn ho
   have hlen := zms o.l.ok
   rw [hl, Option.bind_some, ho]
   dsimp only
   unfold didV at *
   by_cases k3 : v.k = 3
   ·obtain ⟨m4, hi⟩ := zg4 (ext := ext) h1 (o.s.size : Nat)
    rw [k3] at hf hob
    simp -implicitDefEqProofs [x155, hf, k3, hob, hi]
   by_cases k4 : v.k = 4
   ·obtain ⟨m4, hi⟩ := zg4 (ext := ext) h1 (o.l.xs.length : Nat)
    rw [k4] at hf hob
    simp -implicitDefEqProofs [x155, hf, k4, hob, hi, hlen]
   ·have k5 : v.k = 5 := by omega
    obtain ⟨m4, hi⟩ := zg4 (ext := ext) h1 ((o.l.xs.length / 2 : Nat) : Int)
    have hd : IntKind.wrap .i64 ((o.l.xs.length : Int).tdiv 2) = ((o.l.xs.length / 2 : Nat) : Int) := by
     have := o.l.ok.2.1
     rw [Int.tdiv_eq_ediv_of_nonneg (by omega), wrapI64 (by omega) (by omega)]; omega
    have hd2 : IntKind.wrap .i64 ((o.l.xs.length : Int) / 2) = ((o.l.xs.length / 2 : Nat) : Int) := by
     have := o.l.ok.2.1
     rw [wrapI64 (by omega) (by omega)]; omega
    have hq : intBin .quo .i64 (o.l.xs.length : Int) 2 = some (.int .i64 ((o.l.xs.length / 2 : Nat) : Int)) := by
     simp only [intBin]
     rw [if_neg (by decide), hd]
    rw [k5] at hf hob
    clear hd hd2
    generalize o.l.xs.length / 2 = hh at *
    simp -implicitDefEqProofs [-intBin, q_eql, x155, hf, k5, hob, hlen, hq, hi]
  ·have k3 : ¬ v.k = 3 := by omega
   have k4 : ¬ v.k = 4 := by omega
   have k5 : ¬ v.k = 5 := by omega
   have : (match (leadsOf S v).bind fun k => S[k]? with | some o => if v.k = 3 then didV 2 o.s.size .empty 0 else if v.k = 4 then didV 2 o.l.xs.length .empty 0 else if v.k = 5 then didV 2 (o.l.xs.length / 2 : Nat) .empty 0 else didV 0 0 kindT 0 | none => didV 0 0 kindT 0) = didV 0 0 kindT 0 := by
    split
    ·rw [if_neg k3, if_neg k4, if_neg k5]
    ·rfl
   rw [this]
   unfold didV at *
   simp -implicitDefEqProofs [x155, hf, ht, k3, k4, k5]
theorem zgo (h : code 488 = some x488) {iv : IV} {S : List Obj} (ht : callW code ext 377 [.imm iv] [] = some (.osl 0 0 5 S.length (some (S.length + 1)), [.flat (tObj.row (S.map twinObj ++ [spObj])) false])) :
  callW code ext 488 [.imm iv] [] = some (.optr 0 0, [.rich [.osl 1 0 5 S.length (some (S.length + 1))], .flat (tObj.row (S.map twinObj ++ [spObj])) false]) := by
 rw [zbr code ext h]
 generalize tObj.row (S.map twinObj ++ [spObj]) = R at *
 have hown : (R.all IV.plain = true) ∨ ¬ (R.all IV.plain = true) := by cases R.all IV.plain <;> simp
 simp -implicitDefEqProofs [x488, ht]
end
end Go.EX


set_option linter.unusedVariables false
set_option linter.unusedSimpArgs false
namespace Go.EX
section
variable {code : Nat → Option XFun} {ext : Calls'}
theorem zpm (h : code 357 = some x357) {iv jv : IV} {xs : List Val} (hr : Reads tVal iv xs) (hs : Reads tVal jv xs) : callW code ext 357 [.imm iv, .imm jv] [] = some (avb true, []) := by
 have hl := zms hr
 have hl2 := zms hs
 have hb := hr.2.1
 have loop : ∃ e s', den code ext (.loop [0, 1, 5] x357L1) ⟨0, [(0, .imm iv), (1, .imm jv), (5, int64 0)], []⟩ = some (e, s') ∧ e ≠ .normal ∧ (e = .exit 0 ∧ s' = ⟨0, [(0, .imm iv), (1, .imm jv), (5, int64 xs.length), (14, avb false)], []⟩) := by
  refine zir (fun n s => ∃ i, i + n = xs.length ∧ s = ⟨0, [(0, .imm iv), (1, .imm jv), (5, int64 (i : Nat))], []⟩) _ ?_ xs.length _ ⟨0, by simp, rfl⟩
  rintro n _ ⟨i, hi, rfl⟩
  by_cases hlt : i < xs.length
  ·have hx := List.getElem?_eq_getElem hlt
   obtain ⟨r1, o1, c1, rfl, _, _, g1⟩ := zmt hr hx
   obtain ⟨r2, o2, c2, rfl, _, _, g2⟩ := zmt hs hx
   generalize xs[i] = v at g1 g2
   simp only [tVal] at g1 g2
   have e1 : IntKind.wrap .i64 ((i : Int) + 1) = (i : Int) + 1 := wrapI64 (by omega) (by omega)
   have hlt' : (i : Int) < xs.length := by omega
   refine ⟨.normal, ⟨0, [(0, .imm (.slice r1 o1 xs.length c1)), (1, .imm (.slice r2 o2 xs.length c2)), (5, int64 ((i : Int) + 1))], []⟩, ?_, .inl ⟨rfl, n - 1, by omega, i + 1, by omega, rfl⟩⟩
   simp -implicitDefEqProofs [x357L1, hlt, hlt', g1, g2, e1]
  ·have : i = xs.length := by omega
   subst this
   refine ⟨.exit 0, ⟨0, [(0, .imm iv), (1, .imm jv), (5, int64 xs.length), (14, avb false)], []⟩, ?_, .inr ⟨by simp, rfl, rfl⟩⟩
   simp -implicitDefEqProofs [x357L1, hl]
 obtain ⟨e, s', l1, _, rfl, rfl⟩ := loop
 rw [zbr code ext h]
 unfold x357
 generalize x357L1 = L at *
 simp -implicitDefEqProofs [hl, hl2, l1]
def LikeObj (a b : Obj) : Prop := a.k = b.k ∧ a.s = b.s ∧ a.l.xs = b.l.xs ∧ a.room = b.room ∧ a.fn = b.fn
theorem zpe (h : code 351 = some x351) (h1 : code 357 = some x357) {a b : Obj} (hab : LikeObj a b) :
  ∃ m, callW code ext 351 [.agg [.imm (.val (.int .u8 a.k)), .imm (.val (.string a.s)), .imm a.l.iv, int64 a.room, int64 a.fn], .agg [.imm (.val (.int .u8 b.k)), .imm (.val (.string b.s)), .imm b.l.iv, int64 b.room, int64 b.fn]] [] = some (avb true, m) := by
 obtain ⟨e1, e2, e3, e4, e5⟩ := hab
 have hb := b.l.ok
 rw [← e3] at hb
 have hv := zpm (ext := ext) h1 a.l.ok hb
 refine mem_of ?_
 rw [zbr code ext h, ← e1, ← e2, ← e4, ← e5]
 simp -implicitDefEqProofs [x351, hv]
theorem zpf (h : code 352 = some x352) (h1 : code 351 = some x351) (h2 : code 357 = some x357) {iv jv : IV} {A B : List Obj} (hr : Reads tObj iv A) (hs : Reads tObj jv B) (hl : A.length = B.length) (hab : ∀ (i : Nat) (a b : Obj), A[i]? = some a → B[i]? = some b → LikeObj a b) : callW code ext 352 [.imm iv, .imm jv] [] = some (avb true, []) := by
 have hlA := zms hr
 have hlB := zms hs
 rw [← hl] at hlB
 have hb := hr.2.1
 have loop : ∃ e s', den code ext (.loop [0, 1, 5] x352L1) ⟨0, [(0, .imm iv), (1, .imm jv), (5, int64 0)], []⟩ = some (e, s') ∧ e ≠ .normal ∧ (e = .exit 0 ∧ s' = ⟨0, [(0, .imm iv), (1, .imm jv), (5, int64 A.length), (14, avb false)], []⟩) := by
  refine zir (fun n s => ∃ i, i + n = A.length ∧ s = ⟨0, [(0, .imm iv), (1, .imm jv), (5, int64 (i : Nat))], []⟩) _ ?_ A.length _ ⟨0, by simp, rfl⟩
  rintro n _ ⟨i, hi, rfl⟩
  by_cases hlt : i < A.length
  ·have hx := List.getElem?_eq_getElem hlt
   have hy := List.getElem?_eq_getElem (l := B) (i := i) (by omega)
   obtain ⟨r1, o1, c1, rfl, _, _, g1⟩ := zmt hr hx
   obtain ⟨r2, o2, c2, rfl, _, _, g2⟩ := zmt hs hy
   obtain ⟨m, hso⟩ := zpe (ext := ext) h1 h2 (hab i _ _ hx hy)
   generalize A[i] = a at *
   generalize B[i]'(by omega) = b at *
   simp only [tObj] at g1 g2
   rw [← hl]
   have e1 : IntKind.wrap .i64 ((i : Int) + 1) = (i : Int) + 1 := wrapI64 (by omega) (by omega)
   have hlt' : (i : Int) < A.length := by omega
   refine ⟨.normal, ⟨0, [(0, .imm (.slice r1 o1 A.length c1)), (1, .imm (.slice r2 o2 A.length c2)), (5, int64 ((i : Int) + 1))], []⟩, ?_, .inl ⟨rfl, n - 1, by omega, i + 1, by omega, rfl⟩⟩
   simp -implicitDefEqProofs [x352L1, hlt, hlt', g1, g2, e1, hso]
  ·have : i = A.length := by omega
   subst this
   refine ⟨.exit 0, ⟨0, [(0, .imm iv), (1, .imm jv), (5, int64 A.length), (14, avb false)], []⟩, ?_, .inr ⟨by simp, rfl, rfl⟩⟩
   simp -implicitDefEqProofs [x352L1, hlA]
 obtain ⟨e, s', l1, _, rfl, rfl⟩ := loop
 rw [zbr code ext h]
 unfold x352
 generalize x352L1 = L at *
 simp -implicitDefEqProofs [hlA, hlB, l1]
theorem zpg (h0 : code 355 = some x355) (h : code 352 = some x352) (h1 : code 351 = some x351) (h2 : code 357 = some x357) {iv jv : IV} {A B : List Obj} (hr : Reads tObj iv A) (hs : Reads tObj jv B) (hl : A.length = B.length) (hab : ∀ (i : Nat) (a b : Obj), A[i]? = some a → B[i]? = some b → LikeObj a b) : callW code ext 355 [.imm iv, .imm jv] [] = some (avb true, []) := by
 have hv := zpf (ext := ext) h h1 h2 hr hs hl hab
 rw [zbr code ext h0]
 simp -implicitDefEqProofs [x355, hv]
end
end Go.EX


set_option maxHeartbeats 2000000
set_option linter.unusedVariables false
set_option linter.unusedSimpArgs false
namespace Go.EX
section
variable {code : Nat → Option XFun} {ext : Calls'}
def doV (k n : Int) (t : ByteArray) (b : Bool) : AV := .agg [.imm (.val (.int .u8 k)), int64 n, strV t, avb b]
def plainM (R : List IV) (N : Nat) (u k n : Int) : Mem := [.rich [.osl 2 0 5 N (some N), int64 1152921504606846976, int64 u], .flat [.val (.int .u8 k), .val (.int .i64 n)] false, .flat R false]
theorem zbx (h : code 580 = some x580) (k n : Int) : ∃ m, callW code ext 580 [.imm (.slice [.val (.int .u8 k), .val (.int .i64 n)] 0 1 (some 1))] [] = some (avb (decide (k = 7)), m) := by
 have e10 : IntKind.wrap .i64 1 = 1 := rfl
 have loop : ∃ e s', den code ext (.loop [5, 6, 7] x580L1) ⟨0, [(5, .imm (.slice [.val (.int .u8 k), .val (.int .i64 n)] 0 1 (some 1))), (6, int64 1), (7, int64 0)], []⟩ = some (e, s') ∧ e ≠ .normal ∧
   ((k ≠ 7 ∧ e = .exit 0 ∧ ∃ x, s' = ⟨0, x, []⟩) ∨ (k = 7 ∧ e = .ret ∧ ∃ m, s' = ⟨0, [(2, avb true)], m⟩)) := by
  refine zir (fun q s => (q = 1 ∧ s.tidy [5, 6, 7] = ⟨0, [(5, .imm (.slice [.val (.int .u8 k), .val (.int .i64 n)] 0 1 (some 1))), (6, int64 1), (7, int64 0)], []⟩) ∨ (q = 0 ∧ k ≠ 7 ∧ s.tidy [5, 6, 7] = ⟨0, [(5, .imm (.slice [.val (.int .u8 k), .val (.int .i64 n)] 0 1 (some 1))), (6, int64 1), (7, int64 1)], []⟩)) _ ?_ 1 _ (.inl ⟨rfl, by simp -implicitDefEqProofs⟩)
  rintro q s (⟨rfl, hst⟩ | ⟨rfl, hk, hst⟩)
  ·rw [hst]
   by_cases k7 : k = 7
   ·refine ⟨.ret, ⟨0, [(2, avb true)], [.rich [.imm (.val (.int .u8 k)), int64 n]]⟩, ?_, .inr ⟨by simp, .inr ⟨k7, rfl, _, rfl⟩⟩⟩
    simp -implicitDefEqProofs [x580L1, k7]
   ·refine ⟨.normal, ⟨0, [(5, .imm (.slice [.val (.int .u8 k), .val (.int .i64 n)] 0 1 (some 1))), (6, int64 1), (7, int64 1)], [.rich [.imm (.val (.int .u8 k)), int64 n]]⟩, ?_, .inl ⟨rfl, 0, by omega, .inr ⟨rfl, k7, by simp -implicitDefEqProofs⟩⟩⟩
    simp -implicitDefEqProofs [x580L1, k7, e10]
  ·rw [hst]
   refine ⟨.exit 0, ⟨0, [(5, .imm (.slice [.val (.int .u8 k), .val (.int .i64 n)] 0 1 (some 1))), (6, int64 1), (7, int64 1), (8, avb false)], []⟩, ?_, .inr ⟨by simp, .inl ⟨hk, rfl, _, rfl⟩⟩⟩
   simp -implicitDefEqProofs [x580L1]
 refine mem_of ?_
 rw [zbr code ext h]
 unfold x580
 generalize x580L1 = L at *
 obtain ⟨e, s', l1, _, ⟨hk, rfl, x, rfl⟩ | ⟨hk, rfl, m, rfl⟩⟩ := loop
 ·simp -implicitDefEqProofs [l1, hk]
 ·rw [hk] at l1 ⊢
  simp -implicitDefEqProofs [l1]
  split <;> rfl
theorem zrw (h : code 588 = some x588) (b : Bool) : ∃ m, callW code ext 588 [avb b] [] = some (.agg [.imm (.val (.int .u8 1)), int64 (if b then 1 else 0)], m) := by
 refine mem_of ?_
 rw [zbr code ext h]
 cases b <;> simp -implicitDefEqProofs [x588]
theorem zdn (h : code 206 = some x206) (h1 : code 580 = some x580) (h2 : code 588 = some x588) (R : List IV) (N : Nat) (k n : Int) :
  callW code ext 206 [.optr 0 0, .agg [.imm (.val (.int .u8 15)), int64 0, .osl 1 0 2 1 (some 1), nilS]] (plainM R N 0 k n) =
   some (if k = 1 then doV 1 (if n = 0 then 1 else 0) .empty false else doV 0 0 kindT false, plainM R N 0 k n) := by
 obtain ⟨m1, hc⟩ := zbx (ext := ext) h1 k n
 rw [zbr code ext h]
 unfold doV plainM
 by_cases k7 : k = 7
 ·rw [k7] at hc ⊢
  simp -implicitDefEqProofs [x206, hc]
 ·have : decide (k = 7) = false := by simpa using k7
  rw [this] at hc
  by_cases k1 : k = 1
  ·by_cases hn : n = 0
   ·obtain ⟨m2, ht⟩ := zrw (ext := ext) h2 true
    simp only [if_true] at ht
    rw [k1, hn] at hc ⊢
    simp -implicitDefEqProofs [x206, hc, ht]
   ·obtain ⟨m2, ht⟩ := zrw (ext := ext) h2 false
    simp only [Bool.false_eq_true, if_false] at ht
    rw [k1] at hc ⊢
    simp -implicitDefEqProofs [x206, hc, ht, hn]
  ·simp -implicitDefEqProofs [x206, hc, k1]
theorem zdm (h : code 206 = some x206) (h1 : code 580 = some x580) (R : List IV) (N : Nat) (k n : Int) :
  callW code ext 206 [.optr 0 0, .agg [.imm (.val (.int .u8 16)), int64 0, .osl 1 0 2 1 (some 1), nilS]] (plainM R N 0 k n) =
   some (if k = 2 then doV 2 (IntKind.wrap .i64 (-n)) .empty false else doV 0 0 kindT false, plainM R N 0 k n) := by
 obtain ⟨m1, hc⟩ := zbx (ext := ext) h1 k n
 rw [zbr code ext h]
 unfold doV plainM
 by_cases k7 : k = 7
 ·rw [k7] at hc ⊢
  simp -implicitDefEqProofs [x206, hc]
 ·have : decide (k = 7) = false := by simpa using k7
  rw [this] at hc
  by_cases k2 : k = 2
  ·rw [k2] at hc ⊢
   simp -implicitDefEqProofs [x206, hc]
  ·simp -implicitDefEqProofs [x206, hc, k2]
end
end Go.EX


set_option maxHeartbeats 2000000
set_option linter.unusedVariables false
set_option linter.unusedSimpArgs false
namespace Go.EX
section
variable {code : Nat → Option XFun} {ext : Calls'}
def plainN (R : List IV) (N : Nat) (u : Int) : Mem := [.rich [.osl 1 0 5 N (some N), int64 1152921504606846976, int64 u], .flat R false]
theorem zls (h : code 213 = some x213) (R : List IV) {N q : Nat} (u : Int) (k n : Int) (hq : (q : Int) = n - 1) (hN : q < N) (hb : N ≤ 1000000000) :
  callW code ext 213 [.optr 0 0, .agg [.imm (.val (.int .u8 k)), int64 n]] (plainN R N u) = some (.optr 1 (q * 5), plainN R N u) := by
 have e1 : IntKind.wrap .i64 (n - 1) = (q : Nat) := by rw [← hq]; exact wrapI64 (by omega) (by omega)
 have h2 : (q : Int) < N := by omega
 rw [zbr code ext h]
 unfold plainN
 simp -implicitDefEqProofs [x213, e1, hN, h2]
def lenP (T : List Obj) (v : Val) : AV := match objOf T v with
 | some o => if v.k = 3 then doV 2 o.s.size .empty false else if v.k = 4 then doV 2 o.l.xs.length .empty false else if v.k = 5 then doV 2 (o.l.xs.length / 2 : Nat) .empty false else doV 0 0 kindT false
 | none => doV 0 0 kindT false
theorem zlv (h : code 217 = some x217) (h1 : code 213 = some x213) {T : List Obj} (hT : T.length ≤ 1000000000) {v : Val} (u : Int) (hb : 3 ≤ v.k → v.k ≤ 5 → ∃ k, leadsOf T v = some k) :
  callW code ext 217 [.optr 0 0, .agg [.imm (.val (.int .u8 v.k)), int64 v.n]] (plainN (tObj.row T) T.length u) = some (lenP T v, plainN (tObj.row T) T.length u) := by
 rw [zbr code ext h]
 unfold lenP objOf
 by_cases hk : 3 ≤ v.k ∧ v.k ≤ 5
 ·obtain ⟨k, hl⟩ := hb hk.1 hk.2
  obtain ⟨hkl, hkn, _, _, o, ho, _⟩ := zh1 hl
  have hob := zls (ext := ext) h1 (tObj.row T) u v.k v.n hkn hkl hT
  have hlen := zms o.l.ok
  have hget := zfo (t := tObj) ho
  have g1 : (tObj.row T)[k * 5 + 1]? = some (.val (.string o.s)) := zcy hget 1 (by decide)
  have g2 : (tObj.row T)[k * 5 + 2]? = some o.l.iv := zcy hget 2 (by decide)
  rw [hl, Option.bind_some, ho]
  dsimp only
  unfold doV plainN at *
  generalize tObj.row T = R at *
  by_cases k3 : v.k = 3
  ·rw [k3] at hob ⊢
   simp -implicitDefEqProofs [x217, hob, g1]
  by_cases k4 : v.k = 4
  ·rw [k4] at hob ⊢
   simp -implicitDefEqProofs [x217, hob, g2, hlen]
  ·have k5 : v.k = 5 := by omega
   have hd : IntKind.wrap .i64 ((o.l.xs.length : Int).tdiv 2) = ((o.l.xs.length / 2 : Nat) : Int) := by
    have := o.l.ok.2.1
    rw [Int.tdiv_eq_ediv_of_nonneg (by omega), wrapI64 (by omega) (by omega)]; omega
   have hq : intBin .quo .i64 (o.l.xs.length : Int) 2 = some (.int .i64 ((o.l.xs.length / 2 : Nat) : Int)) := by
    simp only [intBin]
    rw [if_neg (by decide), hd]
   rw [k5] at hob ⊢
   clear hd
   generalize o.l.xs.length / 2 = hh at *
   simp -implicitDefEqProofs [-intBin, q_eql, x217, hob, g2, hlen, hq]
 ·have k3 : ¬ v.k = 3 := by omega
  have k4 : ¬ v.k = 4 := by omega
  have k5 : ¬ v.k = 5 := by omega
  have : (match (leadsOf T v).bind fun k => T[k]? with | some o => if v.k = 3 then doV 2 o.s.size .empty false else if v.k = 4 then doV 2 o.l.xs.length .empty false else if v.k = 5 then doV 2 (o.l.xs.length / 2 : Nat) .empty false else doV 0 0 kindT false | none => doV 0 0 kindT false) = doV 0 0 kindT false := by
   split
   ·rw [if_neg k3, if_neg k4, if_neg k5]
   ·rfl
  rw [this]
  unfold doV plainN at *
  simp -implicitDefEqProofs [x217, k3, k4, k5]
theorem zdl (h : code 206 = some x206) (h1 : code 580 = some x580) (h2 : code 217 = some x217) (h3 : code 213 = some x213) {T : List Obj} (hT : T.length ≤ 1000000000) {v : Val} (hb : 3 ≤ v.k → v.k ≤ 5 → ∃ k, leadsOf T v = some k) :
  callW code ext 206 [.optr 0 0, .agg [.imm (.val (.int .u8 17)), int64 0, .osl 1 0 2 1 (some 1), nilS]] (plainM (tObj.row T) T.length 0 v.k v.n) =
   some (lenP T v, plainM (tObj.row T) T.length 0 v.k v.n) := by
 obtain ⟨m1, hc⟩ := zbx (ext := ext) h1 v.k v.n
 have hs := zlv (ext := ext) h2 h3 hT (v := v) 0 hb
 have hp : ∃ a b c d, lenP T v = .agg [.imm (.val a), .imm (.val b), .imm (.val c), .imm (.val d)] := by
  unfold lenP doV
  split
  ·split
   ·exact ⟨_, _, _, _, rfl⟩
   ·split
    ·exact ⟨_, _, _, _, rfl⟩
    ·split <;> exact ⟨_, _, _, _, rfl⟩
  ·exact ⟨_, _, _, _, rfl⟩
 have h7 : v.k = 7 → lenP T v = doV 0 0 kindT false := by
  intro h7
  unfold lenP
  split
  ·rw [if_neg (by omega), if_neg (by omega), if_neg (by omega)]
  ·rfl
 rw [zbr code ext h]
 by_cases k7 : v.k = 7
 ·rw [h7 k7]
  rw [k7] at hc ⊢
  unfold doV plainM
  generalize tObj.row T = R at *
  simp -implicitDefEqProofs [x206, hc]
 ·have : decide (v.k = 7) = false := by simpa using k7
  rw [this] at hc
  obtain ⟨a, b, c, d, hp⟩ := hp
  rw [hp] at hs ⊢
  unfold plainM plainN at *
  generalize tObj.row T = R at *
  simp -implicitDefEqProofs [x206, hc, hs]
end
end Go.EX


set_option linter.unusedVariables false
set_option linter.unusedSimpArgs false
namespace Go.EX
section
variable {code : Nat → Option XFun} {ext : Calls'}
def badOf (T : List Obj) (o : Obj) (v : Val) : Bool := !valOf T v || (decide (v.k = 7) != decide (o.k = 6))
def mayMem (T : List Obj) (k : Nat) : Mem := [.rich [.osl 2 0 5 T.length (some (T.length + 1))], .rich [.optr 2 (k * 5)], .flat (storeRow T) false]
theorem zbe (h : code 651 = some x651) (h' : code 656 = some x656) (h2 : code 653 = some x653) (T : List Obj) (hb : T.length ≤ 1048576) (k : Nat) (o : Obj) (ho : T[k]? = some o) (v : Val) (hv : (tInt .i64).wf v.n) :
  callW code ext 653 [.agg [.imm (.val (.int .u8 v.k)), int64 v.n], .optr 0 0, .optr 1 0] (mayMem T k) = some (avb (badOf T o v), mayMem T k) := by
 rw [zbr code ext h2]
 have hval := zsk (ext := ext) h h' T hb v hv
 have g0 : (storeRow T)[k * 5]? = some (.val (.int .u8 o.k)) := zcy (zqr ho) 0 (by omega)
 cases hvv : valOf T v with
 | false =>
  rw [hvv] at hval
  simp -implicitDefEqProofs [x653, mayMem, hval, badOf, hvv]
 | true =>
  rw [hvv] at hval
  by_cases c7 : v.k = 7
  ·have hval7 := hval
   rw [c7] at hval7
   have hvv7 := hvv
   by_cases c6 : o.k = 6
   ·simp -implicitDefEqProofs [x653, mayMem, hval7, badOf, hvv, g0, c7, c6]
   ·simp -implicitDefEqProofs [x653, mayMem, hval7, badOf, hvv, g0, c7, c6]
  ·by_cases c6 : o.k = 6
   ·simp -implicitDefEqProofs [x653, mayMem, hval, badOf, hvv, g0, c7, c6]
   ·simp -implicitDefEqProofs [x653, mayMem, hval, badOf, hvv, g0, c7, c6]
theorem zav (h : code 651 = some x651) (h' : code 656 = some x656) (h2 : code 653 = some x653) (h3 : code 759 = some x759) (h4 : code 749 = some x749) (T : List Obj) (hb : T.length ≤ 1048576) (k : Nat) (o : Obj) (ho : T[k]? = some o) {lv : IV} {l : List Val} (hl : Reads tVal lv l) :
  callW code ext 749 [.imm lv, .clo 653 [.optr 0 0, .optr 1 0]] (mayMem T k) = some (avb (l.any (badOf T o)), mayMem T k) := by
 have hlen := zms hl
 have hbl := hl.2.1
 have loop : ∃ e s', den code ext (.loop [0, 1, 7, 8] x759L1) ⟨3, [(0, .imm lv), (1, .clo 653 [.optr 0 0, .optr 1 0]), (7, int64 l.length), (8, int64 0)], mayMem T k⟩ = some (e, s') ∧ e ≠ .normal ∧
   ((e = .exit 0 ∧ l.any (badOf T o) = false ∧ s' = ⟨3, [(0, .imm lv), (1, .clo 653 [.optr 0 0, .optr 1 0]), (7, int64 l.length), (8, int64 l.length), (9, avb false)], mayMem T k⟩) ∨ (e = .ret ∧ l.any (badOf T o) = true ∧ ∃ i : Nat, s' = ⟨3, [(4, int64 (i : Nat))], mayMem T k⟩)) := by
  refine zir (fun n s => ∃ (i : Nat), i + n = l.length ∧ (l.take i).any (badOf T o) = false ∧ s = ⟨3, [(0, .imm lv), (1, .clo 653 [.optr 0 0, .optr 1 0]), (7, int64 l.length), (8, int64 (i : Nat))], mayMem T k⟩) _ ?_ l.length _ ⟨0, by simp, by simp, rfl⟩
  rintro n _ ⟨i, hi, hall, rfl⟩
  by_cases hlt : i < l.length
  ·obtain ⟨row, off, cap, rfl, hc, hcut, hget⟩ := zmt hl (List.getElem?_eq_getElem hlt)
   have e1 : IntKind.wrap .i64 ((i : Int) + 1) = (i : Int) + 1 := wrapI64 (by omega) (by omega)
   have htk : l.take (i + 1) = l.take i ++ [l[i]] := by rw [List.take_add_one, List.getElem?_eq_getElem hlt]; rfl
   have hmem := List.getElem_mem hlt
   have hw := (hl.1 _ hmem).2
   generalize l[i] = v at hget htk hmem hw
   simp only [tVal] at hget
   have hs := zbe (ext := ext) h h' h2 T hb k o ho v hw
   simp only [mayMem] at hs
   cases hbv : badOf T o v with
   | true =>
    rw [hbv] at hs
    refine ⟨.ret, ⟨3, [(4, int64 (i : Nat))], mayMem T k⟩, ?_, .inr ⟨by simp, .inr ⟨rfl, List.any_eq_true.2 ⟨v, hmem, hbv⟩, i, rfl⟩⟩⟩
    simp -implicitDefEqProofs [x759L1, mayMem, hlt, hget, hs]
   | false =>
    rw [hbv] at hs
    refine ⟨.normal, ⟨3, [(0, .imm (.slice row off l.length cap)), (1, .clo 653 [.optr 0 0, .optr 1 0]), (7, int64 l.length), (8, int64 ((i : Int) + 1))], mayMem T k⟩, ?_, .inl ⟨rfl, n - 1, by omega, i + 1, by omega, by rw [htk, List.any_append, hall]; simp [hbv], rfl⟩⟩
    simp -implicitDefEqProofs [x759L1, mayMem, hlt, hget, hs, e1]
  ·have : i = l.length := by omega
   subst this
   rw [List.take_length] at hall
   refine ⟨.exit 0, _, ?_, .inr ⟨by simp, .inl ⟨rfl, hall, rfl⟩⟩⟩
   simp -implicitDefEqProofs [x759L1, mayMem]
 have hidx : ∃ r : Int, callW code ext 759 [.imm lv, .clo 653 [.optr 0 0, .optr 1 0]] (mayMem T k) = some (int64 r, mayMem T k) ∧ ((0 ≤ r) ↔ l.any (badOf T o) = true) := by
  obtain ⟨e, s', g1, _, ⟨rfl, ha, rfl⟩ | ⟨rfl, ha, i, rfl⟩⟩ := loop
  ·refine ⟨-1, ?_, by rw [ha]; simp⟩
   rw [zbr code ext h3]
   simp only [mayMem] at g1 ⊢
   simp -implicitDefEqProofs [x759, hlen, g1]
  ·refine ⟨i, ?_, by rw [ha]; simp⟩
   rw [zbr code ext h3]
   simp only [mayMem] at g1 ⊢
   simp -implicitDefEqProofs [x759, hlen, g1]
 obtain ⟨r, hr, hri⟩ := hidx
 rw [zbr code ext h4]
 have hdec : decide (0 ≤ r) = l.any (badOf T o) := by
  cases ha : l.any (badOf T o) with
  | true => simpa using hri.2 ha
  | false => simp only [decide_eq_false_iff_not]; intro hc; rw [hri.1 hc] at ha; cases ha
 simp only [mayMem] at hr ⊢
 simp -implicitDefEqProofs [x749, hr, hdec]
theorem zax (T : List Obj) (o : Obj) (l : List Val) : l.any (badOf T o) = !heldOf T l (decide (o.k = 6)) := by
 unfold heldOf
 induction l with
 | nil => rfl
 | cons v l ih =>
  rw [List.any_cons, List.all_cons, ih, Bool.not_and]
  congr 1
  unfold badOf
  cases valOf T v <;> cases decide (v.k = 7) <;> cases decide (o.k = 6) <;> rfl
end
end Go.EX


set_option linter.unusedVariables false
set_option linter.unusedSimpArgs false
namespace Go.EX
def normOf (T : List Obj) (v : Val) : Int × Int × ByteArray :=
 if v.k = 3 then match leadsOf T v with
  | some i => (3, 0, sAt T i)
  | none => (v.k, v.n, .empty)
 else (v.k, v.n, .empty)
def keyAV (x : Int × Int × ByteArray) : AV := .agg [.imm (.val (.int .u8 x.1)), int64 x.2.1, .imm (.val (.string x.2.2))]
def normMap (acc : List (Int × Int × ByteArray)) : List (AV × AV) := acc.map fun x => (keyAV x, avb true)
open Classical in
noncomputable def addNorm (acc : List (Int × Int × ByteArray)) (x : Int × Int × ByteArray) : List (Int × Int × ByteArray) := if x ∈ acc then acc else acc ++ [x]
@[simp] theorem refs_norm1 (acc : List (Int × Int × ByteArray)) : AV.refs.refsL (List.map (fun x => x.1) (normMap acc)) = [] := by
 unfold normMap
 induction acc with
 | nil => rfl
 | cons x r ih =>
  have hk : (keyAV x).refs = [] := rfl
  simp only [List.map_cons, AV.refs.refsL, ih, hk, List.append_nil]
@[simp] theorem refs_norm2 (acc : List (Int × Int × ByteArray)) : AV.refs.refsL (List.map (fun x => x.2) (normMap acc)) = [] := by
 unfold normMap
 induction acc with
 | nil => rfl
 | cons x r ih => simp only [List.map_cons, AV.refs.refsL, ih, AV.refs]; rfl
@[simp] theorem norm_ren (f : Nat → Option Nat) (acc : List (Int × Int × ByteArray)) : List.map (fun p => (AV.ren f p.1, AV.ren f p.2)) (normMap acc) = normMap acc := by
 simp [normMap, keyAV, AV.ren, AV.ren.renL]
theorem key57 (x : Int × Int × ByteArray) : isKeyAV 57 (keyAV x) = true := by
 have e : isKeyAV 57 (keyAV x) = (sameCells [0, 0, 2] [.imm (.val (.int .u8 x.1)), int64 x.2.1, .imm (.val (.string x.2.2))] [.imm (.val (.int .u8 x.1)), int64 x.2.1, .imm (.val (.string x.2.2))]).isSome := rfl
 rw [e]; simp [sameCells]
theorem zbk (a b : ByteArray) : (a == b) = decide (a = b) := by rw [Go.beq_toListBytes, bytes_beq]
theorem keyEq57 (m : Mem) (x y : Int × Int × ByteArray) : keyEq m 57 (keyAV x) (keyAV y) = some (decide (x = y)) := by
 obtain ⟨a, b, c⟩ := x
 obtain ⟨a', b', c'⟩ := y
 have e : keyEq m 57 (keyAV (a, b, c)) (keyAV (a', b', c')) = sameCells [0, 0, 2] [.imm (.val (.int .u8 a)), int64 b, .imm (.val (.string c))] [.imm (.val (.int .u8 a')), int64 b', .imm (.val (.string c'))] := rfl
 rw [e]
 simp only [sameCells, if_true, Option.map_some, Bool.and_true, Option.some.injEq, zbk]
 by_cases h1 : a = a' <;> by_cases h2 : b = b' <;> by_cases h3 : c = c' <;> simp [h1, h2, h3]
theorem findK57 (x : Int × Int × ByteArray) : ∀ (acc : List (Int × Int × ByteArray)) (i : Nat),
  (x ∉ acc ∧ ∀ m, findK m 57 (keyAV x) (normMap acc) i = some none) ∨ (x ∈ acc ∧ ∃ j, (∀ m, findK m 57 (keyAV x) (normMap acc) i = some (some (i + j))) ∧ acc[j]? = some x)
 | [], i => .inl ⟨by simp, fun _ => rfl⟩
 | y :: r, i => by
  have hk := fun m => keyEq57 m x y
  by_cases h : x = y
  ·subst h
   refine .inr ⟨by simp, 0, fun m => ?_, rfl⟩
   simp only [normMap, List.map_cons, findK, hk, decide_true, Nat.add_zero]
  ·have hf : ∀ m, findK m 57 (keyAV x) (normMap (y :: r)) i = findK m 57 (keyAV x) (normMap r) (i + 1) := fun m => by simp only [normMap, List.map_cons, findK, hk, h, decide_false]
   rcases findK57 x r (i + 1) with ⟨h1, h2⟩ | ⟨h1, j, h2, h3⟩
   ·exact .inl ⟨by simp [h, h1], fun m => by rw [hf, h2]⟩
   ·refine .inr ⟨by simp [h1], j + 1, fun m => ?_, h3⟩
    rw [hf, h2]; congr 2; omega
theorem zjj (acc : List (Int × Int × ByteArray)) (j : Nat) (x : Int × Int × ByteArray) (h : acc[j]? = some x) : (normMap acc).set j (keyAV x, avb true) = normMap acc := by
 refine List.ext_getElem? fun i => ?_
 rw [List.getElem?_set]
 split
 ·rename_i hij; subst hij
  split
  ·simp [normMap, h]
  ·rename_i hl
   rw [List.getElem?_eq_none (by omega)]
 ·rfl
theorem zjk (acc : List (Int × Int × ByteArray)) (x : Int × Int × ByteArray) : normMap acc ++ [(keyAV x, avb true)] = normMap (acc ++ [x]) := by simp [normMap]
section
variable {code : Nat → Option XFun} {ext : Calls'}
noncomputable def normsTo (T : List Obj) (l : List Val) : Nat → List (Int × Int × ByteArray)
 | 0 => []
 | i + 1 => if i % 2 = 0 then (match l[i]? with | some v => addNorm (normsTo T l i) (normOf T v) | none => normsTo T l i) else normsTo T l i
theorem zjl (T : List Obj) (l : List Val) (i : Nat) (v : Val) (hi : i % 2 = 0) (hv : l[i]? = some v) : normsTo T l (i + 2) = addNorm (normsTo T l i) (normOf T v) := by
 rw [normsTo, if_neg (by omega), normsTo, if_pos hi, hv]
def keysMem (T : List Obj) (acc : List (Int × Int × ByteArray)) : Mem := [.flat (storeRow T) false, .map (normMap acc)]
theorem zht (h : code 651 = some x651) (T : List Obj) (hb : T.length ≤ 1048576) {row : List IV} {off : Nat} {cap : Option Nat} {l : List Val} (hl : Reads tVal (.slice row off l.length cap) l) (i : Nat) (v : Val) (hv : l[i]? = some v) (acc : List (Int × Int × ByteArray)) :
  ∃ s', den code ext x650L1 ⟨1, [(0, .osl 0 0 5 T.length (some (T.length + 1))), (1, .imm (.slice row off l.length cap)), (5, .omap 1), (6, int64 (i : Nat))], keysMem T acc⟩ = some (.normal, s') ∧
   s'.tidy [0, 1, 5, 6] = ⟨1, [(0, .osl 0 0 5 T.length (some (T.length + 1))), (1, .imm (.slice row off l.length cap)), (5, .omap 1), (6, int64 ((i : Int) + 2))], keysMem T (addNorm acc (normOf T v))⟩ := by
 have hlt := (List.getElem?_eq_some_iff.1 hv).1
 obtain ⟨row', off', cap', he, hc, hcut, hget⟩ := zmt hl hv
 cases he
 simp only [tVal] at hget
 have g0 : row[off + i * 2]? = some (.val (.int .u8 v.k)) := zcy hget 0 (by omega)
 have hbl := hl.2.1
 have hw := (hl.1 v (List.mem_of_getElem? hv)).2
 have e1 : IntKind.wrap .i64 ((i : Int) + 2) = (i : Int) + 2 := wrapI64 (by omega) (by omega)
 have hld := zh2 (ext := ext) h T hb v hw
 have hkey : ∀ x : Int × Int × ByteArray, (sameCells (digits 64 53) [.imm (.val (.int .u8 x.1)), int64 x.2.1, .imm (.val (.string x.2.2))] [.imm (.val (.int .u8 x.1)), int64 x.2.1, .imm (.val (.string x.2.2))]).isSome = true := key57
 by_cases k3 : v.k = 3
 ·rw [k3] at hget g0 hld
  cases hq : leadsOf T v with
  | none =>
   have hn : normOf T v = (3, v.n, .empty) := by simp [normOf, k3, hq]
   rw [hq, leadAV] at hld
   rw [hn]
   have hk1 := hkey (3, v.n, .empty)
   rcases findK57 (3, v.n, .empty) acc 0 with ⟨hm, hf⟩ | ⟨hm, j, hf, hj⟩
   ·have ha : normMap (addNorm acc (3, v.n, .empty)) = normMap (acc ++ [(3, v.n, .empty)]) := by rw [addNorm, if_neg hm]
    have hsn := zjk acc (3, v.n, .empty)
    simp only [keysMem]
    rw [ha]
    clear ha hm
    simp only [keyAV, Nat.zero_add] at hf hk1 hsn ⊢
    simp -implicitDefEqProofs [x650L1, hget, g0, hld, e1, hlt, hf, hk1, hsn]
   ·have ha : normMap (addNorm acc (3, v.n, .empty)) = normMap acc := by rw [addNorm, if_pos hm]
    have hset := zjj _ _ _ hj
    simp only [keysMem]
    rw [ha]
    clear ha hm
    simp only [keyAV, Nat.zero_add] at hf hk1 hset ⊢
    simp -implicitDefEqProofs [x650L1, hget, g0, hld, e1, hlt, hf, hk1, hset]
  | some p =>
   have hn : normOf T v = (3, 0, sAt T p) := by simp [normOf, k3, hq]
   rw [hq, leadAV] at hld
   obtain ⟨hpl, _, _, _, o, ho, _⟩ := zh1 hq
   have hso : sAt T p = o.s := by rw [sAt, ho]
   have g1 : (storeRow T)[p * 5 + 1]? = some (.val (.string o.s)) := by
    have hcg := zqr ho
    exact zcy hcg 1 (by omega)
   rw [hso] at hn
   rw [hn]
   have hk1 := hkey (3, 0, o.s)
   rcases findK57 (3, 0, o.s) acc 0 with ⟨hm, hf⟩ | ⟨hm, j, hf, hj⟩
   ·have ha : normMap (addNorm acc (3, 0, o.s)) = normMap (acc ++ [(3, 0, o.s)]) := by rw [addNorm, if_neg hm]
    have hsn := zjk acc (3, 0, o.s)
    simp only [keysMem]
    rw [ha]
    clear ha hm
    simp only [keyAV, Nat.zero_add] at hf hk1 hsn ⊢
    simp -implicitDefEqProofs [x650L1, hget, g0, g1, hld, e1, hlt, hf, hk1, hsn]
   ·have ha : normMap (addNorm acc (3, 0, o.s)) = normMap acc := by rw [addNorm, if_pos hm]
    have hset := zjj _ _ _ hj
    simp only [keysMem]
    rw [ha]
    clear ha hm
    simp only [keyAV, Nat.zero_add] at hf hk1 hset ⊢
    simp -implicitDefEqProofs [x650L1, hget, g0, g1, hld, e1, hlt, hf, hk1, hset]
 ·have hn : normOf T v = (v.k, v.n, .empty) := by simp [normOf, k3]
  rw [hn]
  have hk1 := hkey (v.k, v.n, .empty)
  rcases findK57 (v.k, v.n, .empty) acc 0 with ⟨hm, hf⟩ | ⟨hm, j, hf, hj⟩
  ·have ha : normMap (addNorm acc (v.k, v.n, .empty)) = normMap (acc ++ [(v.k, v.n, .empty)]) := by rw [addNorm, if_neg hm]
   have hsn := zjk acc (v.k, v.n, .empty)
   simp only [keysMem]
   rw [ha]
   clear ha hm
   simp only [keyAV, Nat.zero_add] at hf hk1 hsn ⊢
   simp -implicitDefEqProofs [x650L1, hget, g0, k3, hld, e1, hlt, hf, hk1, hsn]
  ·have ha : normMap (addNorm acc (v.k, v.n, .empty)) = normMap acc := by rw [addNorm, if_pos hm]
   have hset := zjj _ _ _ hj
   simp only [keysMem]
   rw [ha]
   clear ha hm
   simp only [keyAV, Nat.zero_add] at hf hk1 hset ⊢
   simp -implicitDefEqProofs [x650L1, hget, g0, k3, hld, e1, hlt, hf, hk1, hset]
end
end Go.EX

