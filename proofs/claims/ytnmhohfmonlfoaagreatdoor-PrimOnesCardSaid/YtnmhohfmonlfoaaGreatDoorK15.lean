import Derived.Test.YtnmhohfmonlfoaaGreatDoorK14
import Derived.Test.YtnmhohfmonlfoaaGreatDoorK12
import Derived.Lib.ItoaLen
import Derived.Test.YtnmhohfmonlfoaaGreatDoorK10
set_option linter.unusedVariables false
set_option linter.unusedSimpArgs false
namespace Go.EX
section
variable {code : Nat → Option XFun} {ext : Calls'}
theorem zkv (h : code 635 = some x635) {T : List Obj} {v : Val} {a b : Value} {t : ByteArray} {w : Int} {R2 : List IV} {N2 : Nat}
  (hd : callW code ext 640 [.osl 0 0 5 T.length (some (T.length + 1)), .imm (.val (.int .u8 15)), int64 0, .osl 1 0 2 1 (some 1)] [.flat (storeRow T) false, .flat [.val (.int .u8 v.k), .val (.int .i64 v.n)] false] =
   some (.agg [.osl 2 0 5 N2 (some N2), .imm (.val a), .imm (.val b), strV t, int64 w], [.flat (storeRow T) false, .flat [.val (.int .u8 v.k), .val (.int .i64 v.n)] false, .flat R2 false])) :
  callW code ext 635 [.osl 0 0 5 T.length (some (T.length + 1)), .agg [.imm (.val (.int .u8 v.k)), int64 v.n]] [.flat (storeRow T) false] =
   some (.agg [.osl 1 0 5 N2 (some N2), .imm (.val a), .imm (.val b), strV t, int64 w], [.flat (storeRow T) false, .flat R2 false]) := by
 rw [zbr code ext h]
 generalize storeRow T = R at *
 simp -implicitDefEqProofs [x635, hd]
theorem zku (h : code 634 = some x634) {T : List Obj} {v : Val} {a b : Value} {t : ByteArray} {w : Int} {R2 : List IV} {N2 : Nat}
  (hd : callW code ext 640 [.osl 0 0 5 T.length (some (T.length + 1)), .imm (.val (.int .u8 16)), int64 0, .osl 1 0 2 1 (some 1)] [.flat (storeRow T) false, .flat [.val (.int .u8 v.k), .val (.int .i64 v.n)] false] =
   some (.agg [.osl 2 0 5 N2 (some N2), .imm (.val a), .imm (.val b), strV t, int64 w], [.flat (storeRow T) false, .flat [.val (.int .u8 v.k), .val (.int .i64 v.n)] false, .flat R2 false])) :
  callW code ext 634 [.osl 0 0 5 T.length (some (T.length + 1)), .agg [.imm (.val (.int .u8 v.k)), int64 v.n]] [.flat (storeRow T) false] =
   some (.agg [.osl 1 0 5 N2 (some N2), .imm (.val a), .imm (.val b), strV t, int64 w], [.flat (storeRow T) false, .flat R2 false]) := by
 rw [zbr code ext h]
 generalize storeRow T = R at *
 simp -implicitDefEqProofs [x634, hd]
theorem zkt (h : code 631 = some x631) {T : List Obj} {v : Val} {a b : Value} {t : ByteArray} {w : Int} {R2 : List IV} {N2 : Nat}
  (hd : callW code ext 640 [.osl 0 0 5 T.length (some (T.length + 1)), .imm (.val (.int .u8 17)), int64 0, .osl 1 0 2 1 (some 1)] [.flat (storeRow T) false, .flat [.val (.int .u8 v.k), .val (.int .i64 v.n)] false] =
   some (.agg [.osl 2 0 5 N2 (some N2), .imm (.val a), .imm (.val b), strV t, int64 w], [.flat (storeRow T) false, .flat [.val (.int .u8 v.k), .val (.int .i64 v.n)] false, .flat R2 false])) :
  callW code ext 631 [.osl 0 0 5 T.length (some (T.length + 1)), .agg [.imm (.val (.int .u8 v.k)), int64 v.n]] [.flat (storeRow T) false] =
   some (.agg [.osl 1 0 5 N2 (some N2), .imm (.val a), .imm (.val b), strV t, int64 w], [.flat (storeRow T) false, .flat R2 false]) := by
 rw [zbr code ext h]
 generalize storeRow T = R at *
 simp -implicitDefEqProofs [x631, hd]
theorem zkw (h : code 637 = some x637) {T : List Obj} {v : Val} {a b : Value} {t : ByteArray} {w : Int} {R2 : List IV} {N2 : Nat}
  (hd : callW code ext 640 [.osl 0 0 5 T.length (some (T.length + 1)), .imm (.val (.int .u8 18)), int64 0, .osl 1 0 2 1 (some 1)] [.flat (storeRow T) false, .flat [.val (.int .u8 v.k), .val (.int .i64 v.n)] false] =
   some (.agg [.osl 2 0 5 N2 (some N2), .imm (.val a), .imm (.val b), strV t, int64 w], [.flat (storeRow T) false, .flat [.val (.int .u8 v.k), .val (.int .i64 v.n)] false, .flat R2 false])) :
  callW code ext 637 [.osl 0 0 5 T.length (some (T.length + 1)), .agg [.imm (.val (.int .u8 v.k)), int64 v.n]] [.flat (storeRow T) false] =
   some (.agg [.osl 1 0 5 N2 (some N2), .imm (.val a), .imm (.val b), strV t, int64 w], [.flat (storeRow T) false, .flat R2 false]) := by
 rw [zbr code ext h]
 generalize storeRow T = R at *
 simp -implicitDefEqProofs [x637, hd]
theorem zpc (h : code 492 = some x492) (k n : Int) (t : ByteArray) (w : Int) : ∃ m, callW code ext 492 [didV k n t w] [] = some (int64 (if t = .empty then w else 0), m) := by
 refine mem_of ?_
 rw [zbr code ext h]
 unfold didV
 by_cases ht : t = .empty
 ·simp -implicitDefEqProofs [x492, ht]
 ·simp -implicitDefEqProofs [x492, ht]
end
end Go.EX


set_option linter.unusedVariables false
set_option linter.unusedSimpArgs false
namespace Go.EX
section
variable {code : Nat → Option XFun} {ext : Calls'}
theorem zof (h : code 559 = some x559) (o : Obj) (h0 : 0 ≤ o.room) :
  ∃ m, callW code ext 559 [.agg [.imm (.val (.int .u8 o.k)), .imm (.val (.string o.s)), .imm o.l.iv, int64 o.room, int64 o.fn]] [] = some (int64 (wordsObj o), m) := by
 refine mem_of ?_
 rw [zbr code ext h]
 have hlen := zms o.l.ok
 unfold wordsObj
 by_cases k3 : o.k = 3
 ·simp -implicitDefEqProofs [x559, k3]
 by_cases k6 : o.k = 6
 ·simp -implicitDefEqProofs [x559, k6, hlen]
 by_cases k4 : o.k = 4
 ·by_cases hr : o.room = 0
  ·simp -implicitDefEqProofs [x559, k4, hr]
  ·have hp : 0 < o.room := by omega
   simp -implicitDefEqProofs [x559, k4, hr, hp]
 by_cases k5 : o.k = 5
 ·by_cases hr : o.room = 0
  ·simp -implicitDefEqProofs [x559, k5, hr]
  ·have hp : 0 < o.room := by omega
   simp -implicitDefEqProofs [x559, k5, hr, hp]
 ·simp -implicitDefEqProofs [x559, k3, k4, k5, k6]
end
end Go.EX


set_option linter.unusedVariables false
set_option linter.unusedSimpArgs false
namespace Go.EX
section
variable {code : Nat → Option XFun} {ext : Calls'}
def textObj (t : ByteArray) : Obj := ⟨3, t, ⟨.val (.slice none 0 0), [], ⟨by simp, by simp, .inl ⟨rfl, rfl⟩⟩⟩, 0, 0⟩
def heapM (R : List IV) (n c : Nat) : Mem := [.rich [.osl 1 0 5 n (some c)], .flat R false]
theorem znq (h : code 165 = some x165) (h1 : code 559 = some x559) {T : List Obj} (hn : T.length ≤ 100000000) (t : ByteArray) :
  callW code ext 165 [.optr 0 0, .agg [.imm (.val (.int .u8 3)), strV t, nilS, int64 0, int64 0], avb false] (heapM (tObj.row (T ++ [spObj])) T.length (T.length + 1)) =
   some (didV 3 ((T.length + 1 : Nat) : Int) .empty (wordsObj (textObj t)), heapM (tObj.row (T ++ [textObj t])) (T.length + 1) (T.length + 1)) := by
 obtain ⟨m, hs⟩ := zof (ext := ext) h1 (textObj t) (Int.le_refl 0)
 have hset := zpv (t := tObj) (xs := T ++ [spObj]) (by decide) (i := T.length) (by simp) (textObj t)
 have hst : (T ++ [spObj]).set T.length (textObj t) = T ++ [textObj t] := by simp
 rw [hst] at hset
 have henc : tObj.enc (textObj t) = [.val (.int .u8 3), .val (.string t), .val (.slice none 0 0), .val (.int .i64 0), .val (.int .i64 0)] := rfl
 have hz : tObj.sz = 5 := rfl
 rw [henc, hz] at hset
 have hfit : (T.length + 1) * 5 ≤ (tObj.row (T ++ [spObj])).length := by rw [zn6, hz]; simp
 generalize wordsObj (textObj t) = w at *
 simp only [textObj] at hs
 rw [zbr code ext h]
 unfold heapM didV
 generalize tObj.row (T ++ [textObj t]) = R2 at *
 generalize tObj.row (T ++ [spObj]) = R at *
 simp -implicitDefEqProofs [x165, hs, exAppendX, exAppend, elems, hset, hfit]
end
end Go.EX


set_option linter.unusedVariables false
set_option linter.unusedSimpArgs false
namespace Go.EX
section
variable {code : Nat → Option XFun} {ext : Calls'}
abbrev greatT : ByteArray := ⟨#[103, 114, 101, 97, 116]⟩
theorem zog (h0 : code 163 = some x163) (h : code 165 = some x165) (h1 : code 559 = some x559) {T : List Obj} (hn : T.length ≤ 100000000) (t : ByteArray) (ht : t.size ≤ 4096) :
  callW code ext 163 [.optr 0 0, strV t, avb false] (heapM (tObj.row (T ++ [spObj])) T.length (T.length + 1)) =
   some (didV 3 ((T.length + 1 : Nat) : Int) .empty (wordsObj (textObj t)), heapM (tObj.row (T ++ [textObj t])) (T.length + 1) (T.length + 1)) := by
 have hm := znq (ext := ext) h h1 hn t
 generalize wordsObj (textObj t) = w at *
 have ht' : ¬ (4096 : Int) < t.size := by omega
 rw [zbr code ext h0]
 unfold heapM didV at *
 generalize tObj.row (T ++ [textObj t]) = R2 at *
 generalize tObj.row (T ++ [spObj]) = R at *
 generalize ((T.length + 1 : Nat) : Int) = N at *
 simp -implicitDefEqProofs [x163, hm, ht']
theorem zoe (h00 : code 162 = some x162) (h0 : code 163 = some x163) (h : code 165 = some x165) (h1 : code 559 = some x559) (h2 : code 562 = some x562) {T : List Obj} (hn : T.length ≤ 100000000) {v : Val} {b is : Bool} {t : ByteArray}
  (hf : ∃ m, callW code ext 152 [.imm (.ptr [.slice (tObj.row (T ++ [spObj])) 0 T.length (some (T.length + 1))] 0), .imm (.slice [.val (.int .u8 v.k), .val (.int .i64 v.n)] 0 1 (some 1))] [] = some (avb b, m))
  (hx : b = true → ∃ m, callW code ext 504 [.imm (.slice (tObj.row (T ++ [spObj])) 0 T.length (some (T.length + 1))), .agg [.imm (.val (.int .u8 v.k)), int64 v.n]] [] = some (.tup [strV t, avb is], m)) (ht : t.size ≤ 4096) :
  callW code ext 162 [.optr 0 0, .agg [.imm (.val (.int .u8 v.k)), int64 v.n], avb false] (heapM (tObj.row (T ++ [spObj])) T.length (T.length + 1)) =
   if b = false then some (didV 0 0 kindT 0, heapM (tObj.row (T ++ [spObj])) T.length (T.length + 1))
   else if is = false then some (didV 0 0 greatT 0, heapM (tObj.row (T ++ [spObj])) T.length (T.length + 1))
   else some (didV 3 ((T.length + 1 : Nat) : Int) .empty (wordsObj (textObj t)), heapM (tObj.row (T ++ [textObj t])) (T.length + 1) (T.length + 1)) := by
 obtain ⟨m1, hf⟩ := hf
 have hm := zog (ext := ext) h0 h h1 hn t ht
 obtain ⟨m2, hk⟩ := zro (ext := ext) h2 kindT
 obtain ⟨m3, hg⟩ := zro (ext := ext) h2 greatT
 generalize wordsObj (textObj t) = w at *
 rw [zbr code ext h00]
 unfold heapM didV at *
 generalize tObj.row (T ++ [textObj t]) = R2 at *
 generalize tObj.row (T ++ [spObj]) = R at *
 generalize ((T.length + 1 : Nat) : Int) = N at *
 cases b with
 | false =>
  rw [if_pos rfl]
  simp -implicitDefEqProofs [x162, hf, hk]
 | true =>
  obtain ⟨m4, hx⟩ := hx rfl
  cases is with
  | false =>
   rw [if_neg (by simp), if_pos rfl]
   simp -implicitDefEqProofs [x162, hf, hx, hg]
  | true =>
   rw [if_neg (by simp), if_neg (by simp)]
   simp -implicitDefEqProofs [x162, hf, hx, hm]
end
end Go.EX


set_option linter.unusedVariables false
set_option linter.unusedSimpArgs false
namespace Go.EX
section
variable {code : Nat → Option XFun} {ext : Calls'}
theorem zsz (t : ByteArray) (ht : t.size ≤ 4096) : 0 ≤ wordsObj (textObj t) ∧ wordsObj (textObj t) ≤ 1000 := by
 have e1 : IntKind.wrap .i64 ((t.size : Int) + 7) = (t.size : Int) + 7 := wrapI64 (by omega) (by omega)
 have e2 : ((t.size : Int) + 7).tdiv 8 = ((t.size : Int) + 7) / 8 := Int.tdiv_eq_ediv_of_nonneg (by omega)
 have e3 : IntKind.wrap .i64 (((t.size : Int) + 7) / 8) = ((t.size : Int) + 7) / 8 := wrapI64 (by omega) (by omega)
 have e4 : IntKind.wrap .i64 (2 + ((t.size : Int) + 7) / 8) = 2 + ((t.size : Int) + 7) / 8 := wrapI64 (by omega) (by omega)
 have : wordsObj (textObj t) = 2 + ((t.size : Int) + 7) / 8 := by
  unfold wordsObj
  rw [if_pos (show (textObj t).k = 3 from rfl)]
  show IntKind.wrap .i64 (2 + IntKind.wrap .i64 ((IntKind.wrap .i64 ((t.size : Int) + 7)).tdiv 8)) = _
  rw [e1, e2, e3, e4]
 rw [this]
 omega
theorem zra (h : code 218 = some x218) (R : List IV) (N : Nat) {w : Int} (h0 : 0 ≤ w) (h1 : w ≤ 1000) :
  callW code ext 218 [.optr 0 0, int64 w] (plainN R N 0) = some (avb true, plainN R N w) := by
 have e1 : IntKind.wrap .i64 w = w := wrapI64 (by omega) (by omega)
 have h2 : ¬ (1152921504606846976 : Int) < w := by omega
 rw [zbr code ext h]
 unfold plainN
 simp -implicitDefEqProofs [x218, e1, h2]
def plainK (R R2 : List IV) (N : Nat) (w : Int) : Mem := [.rich [.osl 2 0 5 (N + 1) none, int64 1152921504606846976, int64 w], .flat R false, .flat R2 false]
theorem zlr (h : code 212 = some x212) (h1 : code 578 = some x578) (h2 : code 218 = some x218) {T : List Obj} (hn : T.length ≤ 100000000) (t : ByteArray) (ht : t.size ≤ 4096) :
  callW code ext 212 [.optr 0 0, .agg [.imm (.val (.int .u8 3)), strV t, nilS, int64 0, int64 0]] (plainN (tObj.row T) T.length 0) =
   some (doV 3 ((T.length + 1 : Nat) : Int) .empty false, plainK (tObj.row T) (tObj.row (T ++ [textObj t])) T.length (wordsObj (textObj t))) := by
 obtain ⟨m, hs⟩ := zqe (ext := ext) h1 (textObj t)
 obtain ⟨w0, w1⟩ := zsz t ht
 have hr : tObj.row (T ++ [textObj t]) = tObj.row T ++ [.val (.int .u8 3), .val (.string t), .val (.slice none 0 0), .val (.int .i64 0), .val (.int .i64 0)] := by unfold Ty.row; simp [tObj, textObj]
 have hc : cut (tObj.row T) 0 (T.length * 5) = some (tObj.row T) := zc3 tObj T
 generalize wordsObj (textObj t) = w at *
 have htk := zra (ext := ext) h2 (tObj.row T) T.length w0 w1
 simp only [textObj] at hs
 rw [hr, zbr code ext h]
 unfold plainN plainK doV at *
 generalize tObj.row T = R at *
 have hle : (T.length + 1) * 64 ≤ 140737488355328 := by omega
 have hno : ¬ (T.length + 1 ≤ T.length) := by omega
 generalize T.length = N at *
 simp -implicitDefEqProofs [x212, hs, htk, exAppendX, exAppend, elems, hc, hle, hno]
end
end Go.EX


set_option linter.unusedVariables false
set_option linter.unusedSimpArgs false
namespace Go.EX
section
variable {code : Nat → Option XFun} {ext : Calls'}
theorem zlw (h0 : code 219 = some x219) (h : code 212 = some x212) (h1 : code 578 = some x578) (h2 : code 218 = some x218) {T : List Obj} (hn : T.length ≤ 100000000) (t : ByteArray) (ht : t.size ≤ 4096) :
  callW code ext 219 [.optr 0 0, strV t] (plainN (tObj.row T) T.length 0) =
   some (doV 3 ((T.length + 1 : Nat) : Int) .empty false, plainK (tObj.row T) (tObj.row (T ++ [textObj t])) T.length (wordsObj (textObj t))) := by
 have hm := zlr (ext := ext) h h1 h2 hn t ht
 generalize wordsObj (textObj t) = w at *
 have ht' : ¬ (4096 : Int) < t.size := by omega
 rw [zbr code ext h0]
 unfold plainN plainK doV at *
 generalize tObj.row (T ++ [textObj t]) = R2 at *
 generalize tObj.row T = R at *
 generalize ((T.length + 1 : Nat) : Int) = N at *
 simp -implicitDefEqProofs [x219, hm, ht']
theorem zlu (h : code 208 = some x208) {T : List Obj} {v : Val} {t : ByteArray} {is : Bool}
  (hx : ∃ m, callW code ext 648 [.imm (.slice (tObj.row T) 0 T.length (some T.length)), .agg [.imm (.val (.int .u8 v.k)), int64 v.n]] [] = some (.tup [strV t, avb is], m)) :
  callW code ext 208 [.optr 0 0, .agg [.imm (.val (.int .u8 v.k)), int64 v.n]] (plainN (tObj.row T) T.length 0) = some (.tup [strV t, avb is], plainN (tObj.row T) T.length 0) := by
 obtain ⟨m, hx⟩ := hx
 rw [zbr code ext h]
 unfold plainN
 generalize tObj.row T = R at *
 simp -implicitDefEqProofs [x208, hx]
def plainMK (R R2 : List IV) (N : Nat) (w k n : Int) : Mem := [.rich [.osl 3 0 5 (N + 1) none, int64 1152921504606846976, int64 w], .flat [.val (.int .u8 k), .val (.int .i64 n)] false, .flat R false, .flat R2 false]
set_option maxHeartbeats 2000000 in
theorem zdo (h : code 206 = some x206) (hc : code 580 = some x580) (h8 : code 208 = some x208) (h9 : code 219 = some x219) (h2 : code 212 = some x212) (h3 : code 578 = some x578) (h4 : code 218 = some x218) {T : List Obj} (hn : T.length ≤ 100000000) {v : Val} {t : ByteArray} {is : Bool}
  (hx : ∃ m, callW code ext 648 [.imm (.slice (tObj.row T) 0 T.length (some T.length)), .agg [.imm (.val (.int .u8 v.k)), int64 v.n]] [] = some (.tup [strV t, avb is], m)) (ht : t.size ≤ 4096) :
  callW code ext 206 [.optr 0 0, .agg [.imm (.val (.int .u8 18)), int64 0, .osl 1 0 2 1 (some 1), nilS]] (plainM (tObj.row T) T.length 0 v.k v.n) =
   if v.k = 7 then some (doV 0 0 kindT false, plainM (tObj.row T) T.length 0 v.k v.n)
   else if is = false then some (doV 0 0 greatT false, plainM (tObj.row T) T.length 0 v.k v.n)
   else some (doV 3 ((T.length + 1 : Nat) : Int) .empty false, plainMK (tObj.row T) (tObj.row (T ++ [textObj t])) T.length (wordsObj (textObj t)) v.k v.n) := by
 obtain ⟨m1, hc⟩ := zbx (ext := ext) hc v.k v.n
 have hs := zlu (ext := ext) h8 hx
 have hm := zlw (ext := ext) h9 h2 h3 h4 hn t ht
 generalize wordsObj (textObj t) = w at *
 rw [zbr code ext h]
 unfold plainMK plainK plainM plainN doV at *
 generalize tObj.row (T ++ [textObj t]) = R2 at *
 generalize tObj.row T = R at *
 generalize ((T.length + 1 : Nat) : Int) = N at *
 by_cases k7 : v.k = 7
 ·rw [if_pos k7]
  rw [k7] at hc ⊢
  simp -implicitDefEqProofs [x206, hc]
 ·rw [if_neg k7]
  have : decide (v.k = 7) = false := by simpa using k7
  rw [this] at hc
  cases is with
  | false =>
   rw [if_pos rfl]
   simp -implicitDefEqProofs [x206, hc, hs]
  | true =>
   rw [if_neg (by simp)]
   simp -implicitDefEqProofs [x206, hc, hs, hm]
end
end Go.EX


set_option linter.unusedVariables false
set_option linter.unusedSimpArgs false
namespace Go.EX
section
variable {code : Nat → Option XFun} {ext : Calls'}
set_option maxHeartbeats 2000000 in
theorem zdr (h : code 640 = some x640) (h1 : code 643 = some x643V) (h2 : code 743 = some x743) (h3 : code 741 = some x741) (h4 : code 742 = some x742) (h5 : code 740 = some x740) (h6 : code 642 = some x642) (h7 : code 578 = some x578) (h8 : code 639 = some x639)
  {T : List Obj} (hT : ∀ o ∈ T, o.l.xs.length ≤ 1000000) (hn : T.length ≤ 10000000) {v : Val} (op : Int) {a b : Value} {t u : ByteArray} {d : Bool} {w : Int}
  (hc : callW code ext 749 [.osl 0 0 2 1 (some 1), .clo 641 [.optr 1 0]] (handM T v.k v.n) = some (avb false, handM T v.k v.n))
  (hd : callW code ext 206 [.optr 0 0, .agg [.imm (.val (.int .u8 op)), int64 0, .osl 1 0 2 1 (some 1), nilS]] (plainM (tObj.row (T.map cloneObj)) T.length 0 v.k v.n) = some (.agg [.imm (.val a), .imm (.val b), strV t, avb d], plainMK (tObj.row (T.map cloneObj)) (tObj.row (T.map cloneObj ++ [textObj u])) T.length w v.k v.n)) :
  callW code ext 640 [.osl 0 0 5 T.length (some (T.length + 1)), .imm (.val (.int .u8 op)), int64 0, .osl 1 0 2 1 (some 1)] [.flat (storeRow T) false, .flat [.val (.int .u8 v.k), .val (.int .i64 v.n)] false] =
   some (.agg [.osl 2 0 5 (T.length + 1) (some (T.length + 1)), .imm (.val a), .imm (.val b), strV t, int64 (askSum [textObj u])], [.flat (storeRow T) false, .flat [.val (.int .u8 v.k), .val (.int .i64 v.n)] false, .flat (tObj.row ((T.map cloneObj ++ [textObj u]).map cloneObj)) false]) := by
 have ht := zr1 (ext := ext) h1 h2 h3 h4 h5 hT (by omega) false (some (T.length + 1)) (zc5 T)
 have hl : (T.map cloneObj).length = T.length := List.length_map ..
 have hl2 : (T.map cloneObj ++ [textObj u]).length = T.length + 1 := by rw [List.length_append, hl]; rfl
 have hT2 : ∀ o ∈ T.map cloneObj ++ [textObj u], o.l.xs.length ≤ 1000000 := by
  intro o ho
  rcases List.mem_append.1 ho with ho | ho
  ·exact zci T hT o ho
  ·rw [List.mem_singleton.1 ho]; simp [textObj]
 have ht2 := zr1 (ext := ext) (T := T.map cloneObj ++ [textObj u]) h1 h2 h3 h4 h5 hT2 (by rw [hl2]; omega) false none (zc3 tObj _)
 have hs := zqg (ext := ext) (T := T.map cloneObj) h6 h7 (some T.length) (zc3 tObj _) (by rw [hl]; omega)
 have ha := zba (ext := ext) (T := T.map cloneObj) (B := [textObj u]) h8 h7 none (zc3 tObj _) (by rw [hl2]; omega)
 unfold sizeV sizeM at hs
 unfold wasV at ha
 rw [hl2] at ht2 ha
 rw [hl] at hs ha
 have hW : (sizeRow (T.map cloneObj)).all IV.plain = true := by
  rw [List.all_eq_true]
  intro x hx
  unfold sizeRow at hx
  rw [List.mem_map] at hx
  obtain ⟨o, _, rfl⟩ := hx
  rfl
 generalize sizeRow (T.map cloneObj) = W at *
 generalize askSum [textObj u] = aw at *
 rw [zbr code ext h]
 unfold handM at hc
 unfold plainM plainMK at hd
 generalize storeRow T = R at *
 generalize tObj.row ((T.map cloneObj ++ [textObj u]).map cloneObj) = R3 at *
 generalize tObj.row (T.map cloneObj ++ [textObj u]) = R2 at *
 generalize tObj.row (T.map cloneObj) = R1 at *
 by_cases h0 : T.length = 0
 ·rw [if_pos h0, if_pos h0] at hs
  rw [if_pos h0] at ha
  simp -implicitDefEqProofs [x640, ht, hc, hd, ht2, hs, ha]
 ·rw [if_neg h0, if_neg h0] at hs
  rw [if_neg h0] at ha
  simp -implicitDefEqProofs [-IV.plain, x640, ht, hc, hd, ht2, hs, ha, hW]
end
end Go.EX


set_option linter.unusedVariables false
set_option linter.unusedSimpArgs false
namespace Go.EX
open Go.Lib
section
variable {code : Nat → Option XFun} {ext : Calls'}
def rowB (l : List UInt8) : List IV := l.map fun c => .val (.int .u8 c.toNat)
theorem znx (l : List UInt8) : (rowB l).length = l.length := by simp [rowB]
theorem zn0 (l : List UInt8) (c : UInt8) : rowB l ++ [.val (.int .u8 c.toNat)] = rowB (l ++ [c]) := by simp [rowB]
theorem znz (l : List UInt8) (i : Nat) (c : UInt8) : (rowB l).set i (.val (.int .u8 c.toNat)) = rowB (l.set i c) := by simp [rowB, List.map_set]
theorem znw (l : List UInt8) (i : Nat) (c : UInt8) (h : l[i]? = some c) : (rowB l)[i]? = some (.val (.int .u8 c.toNat)) := by simp [rowB, h]
theorem zny (c : UInt8) : rowB [c] = [.val (.int .u8 c.toNat)] := rfl
abbrev uint64 (n : Int) : AV := .imm (.val (.int .u64 n))
theorem zdi (m : Nat) (h : m < 10) : ((UInt8.ofNat (48 + m)).toNat : Int) = 48 + (m : Int) := by
 rw [UInt8.toNat_ofNat']; omega
theorem zdj (x : Int) (m : Nat) (h : m < 10) (hx : x = m) : IntKind.wrap .u8 (IntKind.wrap .u64 (48 + x)) = ((UInt8.ofNat (48 + m)).toNat : Int) := by
 rw [zdi m h, hx]
 unfold IntKind.wrap
 simp [IntKind.bits, IntKind.signed]
 omega
def bV (l : List UInt8) : AV := if l.length = 0 then nilS else .osl 0 0 1 l.length none
def bM (l : List UInt8) : Mem := if l.length = 0 then [] else [.flat (rowB l) false]
theorem zl0 (n : Int) (T : List UInt8) (hT : T.length ≤ 1000) : ∀ (k : Nat) (s : St), (∃ (m : Nat) (bs : List UInt8), m ≤ k ∧ m < 18446744073709551616 ∧ bs ++ (decDigits m).reverse = T ∧ s.tidy [0, 3, 4] = ⟨0, [(0, int64 n), (3, uint64 m), (4, bV bs)], bM bs⟩) →
  ∃ e s', den code ext (.loop [0, 3, 4] x501L1) s = some (e, s') ∧ e ≠ .normal ∧ e = .exit 0 ∧ ∃ (m : Nat) (bs : List UInt8), m < 10 ∧ bs ++ [UInt8.ofNat (48 + m)] = T ∧ s' = ⟨0, [(0, int64 n), (3, uint64 m), (4, bV bs), (14, avb false)], bM bs⟩ := by
 refine zir _ _ ?_
 rintro k s ⟨m, bs, hm, hm64, hbs, hst⟩
 rw [hst]
 by_cases h : m < 10
 ·have h9 : ¬ (9 : Int) < m := by omega
  rw [decDigits, dif_pos h] at hbs
  refine ⟨.exit 0, ⟨0, [(0, int64 n), (3, uint64 m), (4, bV bs), (14, avb false)], bM bs⟩, ?_, .inr ⟨by simp, rfl, m, bs, h, by simpa using hbs, rfl⟩⟩
  unfold bV bM
  by_cases hb : bs.length = 0
  ·rw [if_pos hb, if_pos hb]
   simp -implicitDefEqProofs [x501L1, h9]
  ·rw [if_neg hb, if_neg hb]
   simp -implicitDefEqProofs [x501L1, h9]
 ·have h9 : (9 : Int) < m := by omega
  rw [decDigits, dif_neg h] at hbs
  have hd := zdj ((m : Int).tmod 10) (m % 10) (by omega) (by rw [Int.tmod_eq_emod_of_nonneg (by omega)]; omega)
  have hq : IntKind.wrap .u64 ((m : Int) / 10) = ((m / 10 : Nat) : Int) := by rw [wrapU64 (by omega) (by omega)]; omega
  have hq2 : IntKind.wrap .u64 ((m : Int).tdiv 10) = ((m / 10 : Nat) : Int) := by rw [Int.tdiv_eq_ediv_of_nonneg (by omega)]; exact hq
  have hbs' : (bs ++ [UInt8.ofNat (48 + m % 10)]) ++ (decDigits (m / 10)).reverse = T := by
   rw [← hbs, List.reverse_append]; simp
  have hlen : bs.length + 1 ≤ 1000 := by
   have := congrArg List.length hbs'
   simp only [List.length_append, List.length_cons, List.length_nil] at this
   omega
  have hsn := zn0 bs (UInt8.ofNat (48 + m % 10))
  have hln := znx bs
  generalize hc : UInt8.ofNat (48 + m % 10) = c at *
  have hn1 : (bs ++ [c]).length ≠ 0 := by simp
  by_cases hb : bs.length = 0
  ·have hb0 : bs = [] := List.eq_nil_of_length_eq_zero hb
   subst hb0
   refine ⟨.normal, ⟨0, [(0, int64 n), (3, uint64 (m / 10 : Nat)), (4, .osl 1 0 1 1 none)], [.flat (rowB [c]) false, .flat (rowB [c]) false]⟩, ?_, .inl ⟨rfl, m / 10, by omega, m / 10, [c], by omega, by omega, hbs', ?_⟩⟩
   ·simp -implicitDefEqProofs [x501L1, h9, exAppendX, exAppend, elems, bV, bM, hd, hq, hq2, rowB]
   ·simp -implicitDefEqProofs [bV, bM]
  ·refine ⟨.normal, ⟨0, [(0, int64 n), (3, uint64 (m / 10 : Nat)), (4, .osl 0 0 1 (bs.length + 1) none)], [.flat (rowB (bs ++ [c])) false, .flat (rowB [c]) false]⟩, ?_, .inl ⟨rfl, m / 10, by omega, m / 10, bs ++ [c], by omega, by omega, hbs', ?_⟩⟩
   ·have hcut : cut (rowB bs) 0 bs.length = some (rowB bs) := zcv _ hln
    have hle : bs.length ≤ 140737488355327 := by omega
    simp -implicitDefEqProofs [x501L1, h9, exAppendX, exAppend, elems, bV, bM, hb, hd, hq, hq2, hcut, hle, hsn, zny]
   ·simp -implicitDefEqProofs [bV, bM]
theorem zsb (l : List UInt8) : u8s (rowB l) = some (l.map fun c => (c.toNat : Int)) := by
 induction l with
 | nil => rfl
 | cons c l ih =>
  have : rowB (c :: l) = .val (.int .u8 c.toNat) :: rowB l := rfl
  rw [this]
  simp [u8s, ih]
theorem zqx (l : List UInt8) (n : Nat) (h : l.length = n) : strOfV [.flat (rowB l) false] (.osl 0 0 1 n none) = some ⟨l.toArray⟩ := by
 have hc : cut (rowB l) 0 n = some (rowB l) := zcv _ (by rw [znx, h])
 simp only [strOfV, elems, List.getElem?_cons_zero, Nat.mul_one, hc, Option.map_some, zsb, zlz]
 congr 2
 simp
 have : ((fun n : Int => UInt8.ofNat n.toNat) ∘ fun c : UInt8 => (c.toNat : Int)) = id := by
  funext c
  simp
 rw [this]; simp
def swapAt (T l : List UInt8) (i : Nat) : Prop := l.length = T.length ∧ ∀ j, j < T.length → l[j]? = if j < i ∨ T.length - 1 - j < i then T[T.length - 1 - j]? else T[j]?
theorem zq6 (T : List UInt8) : swapAt T T 0 := ⟨rfl, fun j h => by simp⟩
theorem zq5 {T l : List UInt8} {i : Nat} (h : swapAt T l i) (hi : T.length ≤ 2 * i + 1) : l = T.reverse := by
 obtain ⟨h1, h2⟩ := h
 refine List.ext_getElem? fun j => ?_
 by_cases hj : j < T.length
 ·rw [h2 j hj, List.getElem?_reverse hj]
  split
  ·rfl
  ·congr 1; omega
 ·rw [List.getElem?_eq_none (by omega), List.getElem?_eq_none (by simp; omega)]
theorem zq7 {T l : List UInt8} {i : Nat} (h : swapAt T l i) (hi : 2 * i + 1 < T.length) {c d : UInt8} (hc : l[i]? = some c) (hd : l[T.length - 1 - i]? = some d) : swapAt T ((l.set i d).set (T.length - 1 - i) c) (i + 1) := by
 obtain ⟨h1, h2⟩ := h
 refine ⟨by simp [h1], fun j hj => ?_⟩
 rw [h2 i (by omega), if_neg (by omega)] at hc
 rw [h2 _ (by omega), if_neg (by omega)] at hd
 rw [List.getElem?_set]
 by_cases e1 : T.length - 1 - i = j
 ·subst e1
  rw [if_pos rfl, if_pos (by simp; omega), if_pos (by omega), ← hc]
  congr 1; omega
 ·rw [if_neg e1, List.getElem?_set]
  by_cases e2 : i = j
  ·subst e2
   rw [if_pos rfl, if_pos (by omega), if_pos (by omega), hd]
  ·rw [if_neg e2, h2 j hj]
   by_cases q : j < i ∨ T.length - 1 - j < i
   ·rw [if_pos q, if_pos (by omega)]
   ·rw [if_neg q, if_neg (by omega)]
theorem zno (T : List UInt8) (h0 : 0 < T.length) (hT : T.length ≤ 1000) : ∀ (k : Nat) (s : St), (∃ (i : Nat) (l : List UInt8), i + k = T.length ∧ swapAt T l i ∧ s.tidy [4, 5] = ⟨0, [(4, .osl 0 0 1 T.length none), (5, int64 i)], [.flat (rowB l) false]⟩) →
  ∃ e s', den code ext (.loop [4, 5] x501L2) s = some (e, s') ∧ e ≠ .normal ∧ e = .exit 2 ∧ ∃ x y, s' = ⟨0, [(4, .osl 0 0 1 T.length none), (5, x), (40, y)], [.flat (rowB T.reverse) false]⟩ := by
 refine zir _ _ ?_
 rintro k s ⟨i, l, hk, hl, hst⟩
 rw [hst]
 have e1 : IntKind.wrap .i64 (2 * (i : Int)) = 2 * i := wrapI64 (by omega) (by omega)
 have e2 : IntKind.wrap .i64 ((T.length : Int) - 1) = T.length - 1 := wrapI64 (by omega) (by omega)
 by_cases hlt : 2 * i + 1 < T.length
 ·have hlt' : 2 * (i : Int) < (T.length : Int) - 1 := by omega
  have e3 : IntKind.wrap .i64 ((T.length : Int) - 1 - i) = ((T.length - 1 - i : Nat) : Int) := by rw [wrapI64 (by omega) (by omega)]; omega
  have e4 : IntKind.wrap .i64 ((i : Int) + 1) = (i : Int) + 1 := wrapI64 (by omega) (by omega)
  obtain ⟨h1, h2⟩ := hl
  have hc : l[i]? = some (l[i]'(by omega)) := List.getElem?_eq_getElem (by omega)
  have hd : l[T.length - 1 - i]? = some (l[T.length - 1 - i]'(by omega)) := List.getElem?_eq_getElem (by omega)
  generalize l[i]'(by omega) = c at hc
  generalize l[T.length - 1 - i]'(by omega) = d at hd
  have hs := zq7 ⟨h1, h2⟩ hlt hc hd
  have gc := znw l i c hc
  have gd := znw l _ d hd
  have s1 : setAll (rowB l) i [.val (.int .u8 d.toNat)] = rowB (l.set i d) := znz l i d
  have s2 : setAll (rowB (l.set i d)) (T.length - 1 - i) [.val (.int .u8 c.toNat)] = rowB ((l.set i d).set (T.length - 1 - i) c) := znz _ _ c
  have b1 : i + 1 ≤ (rowB l).length := by rw [znx]; omega
  have b2 : T.length - 1 - i + 1 ≤ (rowB (l.set i d)).length := by rw [znx, List.length_set]; omega
  have b3 : i < T.length := by omega
  have b4 : T.length - 1 - i < T.length := by omega
  have b5 : (i : Int) < T.length := by omega
  generalize T.length - 1 - i = q at *
  refine ⟨.normal, ⟨0, [(4, .osl 0 0 1 T.length none), (5, int64 ((i : Int) + 1))], [.flat (rowB ((l.set i d).set q c)) false]⟩, ?_, .inl ⟨rfl, k - 1, by omega, i + 1, _, by omega, hs, ?_⟩⟩
  ·simp -implicitDefEqProofs [x501L2, hlt', e1, e2, e3, e4, gc, gd, s1, s2, b1, b2, b3, b4, b5]
  ·simp -implicitDefEqProofs
 ·have hlt' : ¬ 2 * (i : Int) < (T.length : Int) - 1 := by omega
  have := zq5 hl (by omega)
  subst this
  refine ⟨.exit 2, ⟨0, [(4, .osl 0 0 1 T.length none), (5, int64 i), (40, avb false)], [.flat (rowB T.reverse) false]⟩, ?_, .inr ⟨by simp, rfl, _, _, rfl⟩⟩
  simp -implicitDefEqProofs [x501L2, hlt', e1, e2]
theorem zdk (h : code 501 = some x501) (n : Int) (hn : (tInt .i64).wf n) : callW code ext 501 [int64 n] [] = some (strV (dig n), []) := by
 obtain ⟨h0, h1⟩ := wfI64.1 hn
 have hU : n.natAbs < 18446744073709551616 := by omega
 have hlen := Go.Lib.itoa_length_le n h0 h1
 have hT : (decDigits n.natAbs).reverse.length ≤ 30 := by
  unfold Go.Lib.itoa at hlen
  split at hlen
  ·simp only [List.length_cons] at hlen
   rw [List.length_reverse]; omega
  ·rw [show n.toNat = n.natAbs by omega] at hlen
   rw [List.length_reverse]; omega
 obtain ⟨w, w1, w2, w3⟩ : ∃ w : Int, IntKind.wrap .u64 n = w ∧ (n < 0 → IntKind.wrap .u64 (0 - w) = (n.natAbs : Nat) ∧ IntKind.wrap .u64 (-w) = (n.natAbs : Nat)) ∧ (¬ n < 0 → w = (n.natAbs : Nat)) := by
  refine ⟨_, rfl, fun h => ?_, fun h => ?_⟩
  ·have : IntKind.wrap .u64 n = n + 18446744073709551616 := by
    unfold IntKind.wrap
    simp [IntKind.bits, IntKind.signed]
    omega
   rw [this, Int.zero_sub]
   refine ⟨?_, ?_⟩ <;>
   ·unfold IntKind.wrap
    simp [IntKind.bits, IntKind.signed]
    omega
  ·rw [wrapU64 (by omega) (by omega)]; omega
 obtain ⟨e, s', l1, _, rfl, m, bs, hm, hbs, rfl⟩ := zl0 (code := code) (ext := ext) n (decDigits n.natAbs).reverse (by omega) n.natAbs ⟨0, [(0, int64 n), (3, uint64 (n.natAbs : Nat)), (4, nilS)], []⟩ ⟨n.natAbs, [], Nat.le_refl _, hU, by simp, by simp -implicitDefEqProofs [bV, bM]⟩
 have hd := zdj (m : Int) m hm rfl
 have hln := znx bs
 have hsn := zn0 bs (UInt8.ofNat (48 + m))
 have hbl : bs.length + 1 ≤ 30 := by
  have := congrArg List.length hbs
  simp only [List.length_append, List.length_cons, List.length_nil] at this
  omega
 have hsm := zn0 (bs ++ [UInt8.ofNat (48 + m)]) 45
 have h45 : ((45 : UInt8).toNat : Int) = 45 := rfl
 rw [h45] at hsm
 have hln2 := znx (bs ++ [UInt8.ofNat (48 + m)])
 have hlc : (bs ++ [UInt8.ofNat (48 + m)]).length = bs.length + 1 := by simp
 generalize hc : UInt8.ofNat (48 + m) = c at *
 have hcut : cut (rowB bs) 0 bs.length = some (rowB bs) := zcv _ hln
 have hcut2 : cut (rowB (bs ++ [c])) 0 (bs.length + 1) = some (rowB (bs ++ [c])) := zcv _ (by rw [hln2, hlc])
 have hle : bs.length ≤ 140737488355327 := by omega
 have hle2 : bs.length + 1 ≤ 140737488355327 := by omega
 have hle3 : bs.length ≤ 140737488355326 := by omega
 rw [zbr code ext h]
 have key := fun T hT0 hT1 s hst => zno (code := code) (ext := ext) T hT0 hT1 T.length s ⟨0, T, by omega, zq6 T, hst⟩
 have L2 : ∀ T : List UInt8, 0 < T.length → T.length ≤ 1000 → ∀ s : St, s.tidy [4, 5] = ⟨0, [(4, .osl 0 0 1 T.length none), (5, int64 0)], [.flat (rowB T) false]⟩ → ∃ x y, den code ext (.loop [4, 5] x501L2) s = some (.exit 2, ⟨0, [(4, .osl 0 0 1 T.length none), (5, x), (40, y)], [.flat (rowB T.reverse) false]⟩) := by
  intro T hT0 hT1 s hst
  obtain ⟨e, s', h1, _, rfl, x, y, rfl⟩ := key T hT0 hT1 s hst
  exact ⟨x, y, h1⟩
 clear key
 have stR : ∀ T : List UInt8, strOfV [.flat (rowB T.reverse) false] (.osl 0 0 1 T.length none) = some ⟨T.reverse.toArray⟩ := fun T => zqx _ _ (by simp)
 by_cases hneg : n < 0
 ·obtain ⟨w2, w4⟩ := w2 hneg
  have hi : dig n = ⟨((bs ++ [c] ++ [45]).reverse).toArray⟩ := by
   unfold dig Go.Lib.itoa
   rw [if_pos hneg, hbs]
   simp
  rw [hi]
  obtain ⟨x, y, l2⟩ := L2 (bs ++ [c] ++ [45]) (by simp) (by simp; omega) ⟨0, [(4, .osl 0 0 1 (bs ++ [c] ++ [45]).length none), (5, int64 0)], [.flat (rowB (bs ++ [c] ++ [45])) false, .flat [.val (.int .u8 c.toNat)] false, .flat [.val (.int .u8 45)] false]⟩ (by simp -implicitDefEqProofs)
  obtain ⟨x', y', l3⟩ := L2 (bs ++ [c] ++ [45]) (by simp) (by simp; omega) ⟨0, [(4, .osl 1 0 1 (bs ++ [c] ++ [45]).length none), (5, int64 0)], [.flat [.val (.int .u8 c.toNat)] false, .flat (rowB (bs ++ [c] ++ [45])) false, .flat [.val (.int .u8 45)] false]⟩ (by simp -implicitDefEqProofs)
  have hs := stR (bs ++ [c] ++ [45])
  have hl3 : (bs ++ [c] ++ [45]).length = bs.length + 1 + 1 := by simp
  rw [hl3] at l2 l3 hs
  generalize bs ++ [c] ++ [45] = T at *
  unfold x501
  generalize x501L1 = L1 at *
  generalize x501L2 = L2 at *
  by_cases hb : bs.length = 0
  ·have hb0 : bs = [] := List.eq_nil_of_length_eq_zero hb
   subst hb0
   simp only [List.nil_append, List.length_nil, Nat.zero_add, zny, bV, bM, if_true] at *
   simp -implicitDefEqProofs [w1, w2, w4, hneg, l1, exAppendX, exAppend, elems, hd, hsm, l3, hs]
  ·simp only [bV, bM, hb, if_false] at l1
   simp -implicitDefEqProofs [w1, w2, w4, hneg, l1, exAppendX, exAppend, elems, hd, hcut, hcut2, hle, hle2, hle3, hsn, hsm, l2, hs]
 ·have w3 := w3 hneg
  have hi : dig n = ⟨((bs ++ [c]).reverse).toArray⟩ := by
   unfold dig Go.Lib.itoa
   rw [if_neg hneg, hbs, show n.toNat = n.natAbs by omega]
   simp
  rw [hi]
  obtain ⟨x, y, l2⟩ := L2 (bs ++ [c]) (by simp) (by simp; omega) ⟨0, [(4, .osl 0 0 1 (bs ++ [c]).length none), (5, int64 0)], [.flat (rowB (bs ++ [c])) false, .flat [.val (.int .u8 c.toNat)] false]⟩ (by simp -implicitDefEqProofs)
  obtain ⟨x', y', l3⟩ := L2 (bs ++ [c]) (by simp) (by simp; omega) ⟨0, [(4, .osl 1 0 1 (bs ++ [c]).length none), (5, int64 0)], [.flat [.val (.int .u8 c.toNat)] false, .flat (rowB (bs ++ [c])) false]⟩ (by simp -implicitDefEqProofs)
  have hs := stR (bs ++ [c])
  rw [hlc] at l2 l3 hs
  unfold x501
  generalize x501L1 = L1 at *
  generalize x501L2 = L2 at *
  by_cases hb : bs.length = 0
  ·have hb0 : bs = [] := List.eq_nil_of_length_eq_zero hb
   subst hb0
   simp only [List.nil_append, List.length_nil, Nat.zero_add, List.reverse_singleton, zny, bV, bM, if_true] at *
   simp -implicitDefEqProofs [w1, w3, hneg, l1, exAppendX, exAppend, elems, hd, l3, hs]
  ·simp only [bV, bM, hb, if_false] at l1
   generalize hTT : bs ++ [c] = T at *
   simp -implicitDefEqProofs [w1, w3, hneg, l1, exAppendX, exAppend, elems, hd, hcut, hle, hsn, l2, hs]
end
end Go.EX


set_option linter.unusedVariables false
set_option linter.unusedSimpArgs false
namespace Go.EX
section
variable {code : Nat → Option XFun} {ext : Calls'}
def leadR (S : List Obj) (v : Val) : Int := match leadsOf S v with
 | some k => (k : Nat)
 | none => -1
theorem zh3 (h : code 502 = some x502) {sv : IV} {S : List Obj} (hr : Reads tObj sv S) (v : Val) : callW code ext 502 [.imm sv, .agg [.imm (.val (.int .u8 v.k)), int64 v.n]] [] = some (int64 (leadR S v), []) := by
 rw [zbr code ext h]
 have hlen := zms hr
 have hb := hr.2.1
 unfold leadR leadsOf
 by_cases c1 : v.k < 3
 ·simp -implicitDefEqProofs [x502, c1]
 by_cases c2 : 7 < v.k
 ·simp -implicitDefEqProofs [x502, c1, c2]
 by_cases c3 : v.n < 1
 ·simp -implicitDefEqProofs [x502, c1, c2, c3]
 by_cases c4 : (S.length : Int) < v.n
 ·simp -implicitDefEqProofs [x502, c1, c2, c3, c4, hlen]
 obtain ⟨vk, vn⟩ := v
 simp only at c1 c2 c3 c4 ⊢
 obtain ⟨p, rfl⟩ : ∃ p : Nat, vn = (p : Int) + 1 := ⟨(vn - 1).toNat, by omega⟩
 have hlt : p < S.length := by omega
 obtain ⟨row, off, cap, rfl, hc, hcut, hget⟩ := zmt hr (List.getElem?_eq_getElem hlt)
 have ep : ((p : Int) + 1 - 1).toNat = p := by omega
 rw [if_neg c1, if_neg c2, if_neg c3, if_neg c4, ep, List.getElem?_eq_getElem hlt]
 generalize S[p] = o at hget
 simp only [tObj] at hget
 have g0 : row[off + p * 5]? = some (.val (.int .u8 o.k)) := zcy hget 0 (by omega)
 have e1 : IntKind.wrap .i64 (p : Int) = p := wrapI64 (by omega) (by omega)
 by_cases c5 : o.k = vk
 ·simp -implicitDefEqProofs [x502, c1, c2, c3, c4, hlen, e1, g0, c5, hlt]
 ·simp -implicitDefEqProofs [x502, c1, c2, c3, c4, hlen, e1, g0, c5, hlt]
abbrev blI (t : Bool) : IV := .val (.bool t)
def rNil (sv : IV) (l : Bool) : Mem := [.rich [.imm sv, nilS, .imm (blI l)]]
def rOne (sv : IV) (b : ByteArray) (l : Bool) : Mem := [.rich [.imm sv, .osl 1 0 1 b.size none, .imm (blI l)], .text (rowOfS b)]
def rTwo (sv : IV) (b : ByteArray) (l : Bool) : Mem := [.rich [.imm sv, .osl 2 0 1 b.size none, .imm (blI l)], .dead, .text (rowOfS b)]
def rOut (two : Bool) (sv : IV) (p : ByteArray × Bool) : Mem := if two then rTwo sv p.1 p.2 else rOne sv p.1 p.2
def putR (p : ByteArray × Bool) (x : ByteArray) : ByteArray × Bool := if p.2 = true ∨ 4096 < p.1.size + x.size then (p.1, true) else (p.1 ++ x, false)
theorem zmc (h : code 98 = some x98S) (sv : IV) (b x : ByteArray) (l : Bool) (h0 : 0 < b.size) (hb : b.size ≤ 4096) (hx : x.size ≤ 100000000) :
  callW code ext 98 [.optr 0 0, strV x] (rOne sv b l) = some (.tup [], rOut (!(putR (b, l) x).2) sv (putR (b, l) x)) := by
 rw [zbr code ext h]
 cases l with
 | true =>
  have hp : putR (b, true) x = (b, true) := by simp [putR]
  rw [hp]
  simp only [rOne, rOut, Bool.not_true, Bool.false_eq_true, if_false]
  simp -implicitDefEqProofs [x98S]
 | false =>
  have e1 : IntKind.wrap .i64 ((b.size : Int) + x.size) = (b.size : Int) + x.size := wrapI64 (by omega) (by omega)
  by_cases h4 : 4096 < b.size + x.size
  ·have hp : putR (b, false) x = (b, true) := by simp [putR, h4]
   have h4' : (4096 : Int) < (b.size : Int) + x.size := by omega
   rw [hp]
   simp only [rOne, rOut, Bool.not_true, Bool.false_eq_true, if_false]
   simp -implicitDefEqProofs [x98S, e1, h4']
  ·have hp : putR (b, false) x = (b ++ x, false) := by simp [putR, h4]
   have h4' : ¬ (4096 : Int) < (b.size : Int) + x.size := by omega
   have hq := zn4 b
   have hle : b.size + x.size ≤ 140737488355328 := by omega
   have hcut : cut (rowOfS x) 0 x.size = some (rowOfS x) := zcv _ (zn4 x)
   rw [hp]
   simp only [rOne, rOut, rTwo, Bool.not_false, if_true, zqd, zn3]
   simp -implicitDefEqProofs [x98S, e1, h4', exAppendS, elems, hq, h0, hle, hcut]
theorem zl4 {b x : ByteArray} {l : Bool} (h0 : 0 < b.size) : 0 < (putR (b, l) x).1.size := by
 unfold putR
 split
 ·exact h0
 ·show 0 < (b ++ x).size; rw [zqd]; omega
theorem zl6 {b x : ByteArray} {l : Bool} (hb : b.size ≤ 4096) : (putR (b, l) x).1.size ≤ 4096 := by
 unfold putR
 split
 ·exact hb
 ·rename_i h
  simp only [not_or] at h
  show (b ++ x).size ≤ 4096; rw [zqd]; omega
def itemsR (f : Val → ByteArray × Bool → ByteArray × Bool) (m : Bool) : List Val → Nat → ByteArray × Bool → ByteArray × Bool
 | [], _, p => p
 | v :: r, i, p => if p.2 = true then p else itemsR f m r (i + 1) (f v (if m = true ∧ i % 2 = 1 then putR p keyT else if 0 < i then putR p nextT else p))
def rowR (f : Val → ByteArray × Bool → ByteArray × Bool) (o : Obj) (p : ByteArray × Bool) : ByteArray × Bool :=
 let m := decide (o.k = 5)
 let q := itemsR f m o.l.xs 0 (putR p (if m then openM else openL))
 putR (if m = true ∧ o.l.xs.length % 2 = 1 then putR q lackT else q) (if m then endM else endL)
def valR (S : List Obj) : Nat → Val → ByteArray × Bool → ByteArray × Bool
 | d, v, p => match pieceOf S (d == 0) v with
  | some x => putR p x
  | none => match d, objOf S v with
   | d + 1, some o => rowR (valR S d) o p
   | _, _ => p
structure ItemR (code : Nat → Option XFun) (ext : Calls') (sv : IV) (inn : Int) (f : Val → ByteArray × Bool → ByteArray × Bool) (xs : List Val) : Prop where
 call : ∀ v ∈ xs, ∀ (b : ByteArray) (l : Bool), 0 < b.size → b.size ≤ 4096 → ∃ two, callW code ext 100 [.optr 0 0, .agg [.imm (.val (.int .u8 v.k)), int64 v.n], int64 inn] (rOne sv b l) = some (.tup [], rOut two sv (f v (b, l)))
 pos : ∀ v ∈ xs, ∀ p : ByteArray × Bool, 0 < p.1.size → 0 < (f v p).1.size
 size : ∀ v ∈ xs, ∀ p : ByteArray × Bool, p.1.size ≤ 4096 → (f v p).1.size ≤ 4096
theorem zmb (h : code 98 = some x98S) (sv : IV) (x : ByteArray) (hx : x.size ≤ 100000000) :
  callW code ext 98 [.optr 0 0, strV x] (rNil sv false) = some (.tup [], if x.size = 0 then rNil sv false else if 4096 < x.size then rNil sv true else rOne sv x false) := by
 rw [zbr code ext h]
 have e1 : IntKind.wrap .i64 (x.size : Int) = x.size := wrapI64 (by omega) (by omega)
 have hle : x.size ≤ 140737488355328 := by omega
 have hcut : cut (rowOfS x) 0 x.size = some (rowOfS x) := zcv _ (zn4 x)
 by_cases h4 : 4096 < x.size
 ·have h4' : (4096 : Int) < x.size := by omega
  rw [if_neg (by omega), if_pos h4]
  simp only [rNil]
  simp -implicitDefEqProofs [x98S, e1, h4']
 ·have h4' : ¬ (4096 : Int) < x.size := by omega
  by_cases h0 : x.size = 0
  ·have := zdz h0
   subst this
   rw [if_pos h0]
   simp only [rNil]
   have w0 : IntKind.wrap .i64 0 = 0 := rfl
   simp -implicitDefEqProofs [x98S, exAppendS, elems, w0]
  ·rw [if_neg h0, if_neg h4]
   simp only [rNil, rOne]
   simp -implicitDefEqProofs [x98S, e1, h4', exAppendS, elems, h0, hle, hcut]
end
end Go.EX


set_option maxHeartbeats 4000000
set_option linter.unusedVariables false
set_option linter.unusedSimpArgs false
namespace Go.EX
section
variable {code : Nat → Option XFun} {ext : Calls'}
theorem zpa (h : code 502 = some x502) (h501 : code 501 = some x501) (h100 : code 100 = some x100) {sv : IV} {S : List Obj} (hr : Reads tObj sv S) (v : Val) (hv : tVal.wf v) (inn : Int) (b c : ByteArray) (l l2 : Bool) (x : ByteArray)
  (hp : pieceOf S (decide (8 < inn)) v = some x) (hw : callW code ext 98 [.optr 0 0, strV x] (rOne sv b l) = some (.tup [], rOne sv c l2)) (hfn : ∀ o ∈ S, (tInt .i64).wf o.fn) (hsz : x.size ≤ 9223372036854775807) :
  callW code ext 100 [.optr 0 0, .agg [.imm (.val (.int .u8 v.k)), int64 v.n], int64 inn] (rOne sv b l) = some (.tup [], rOne sv c l2) := by
 have hl := zh3 (ext := ext) h hr v
 have hfm := zdk (ext := ext) h501 v.n hv.2
 rw [zbr code ext h100]
 simp only [rNil, rOne, rTwo] at hw ⊢
 obtain ⟨vk, vn⟩ := v
 simp only at hl hfm hp ⊢
 unfold pieceOf objOf at hp
 unfold leadR at hl
 by_cases k0 : vk = 0
 ·subst k0
  simp at hp; subst hp
  simp -implicitDefEqProofs [x100, hl, hw]
 by_cases k1 : vk = 1
 ·subst k1
  by_cases hn : vn = 1
  ·subst hn
   simp at hp; subst hp
   simp -implicitDefEqProofs [x100, hl, hw]
  ·simp [hn] at hp; subst hp
   simp -implicitDefEqProofs [x100, hl, hw, hn]
 by_cases k2 : vk = 2
 ·subst k2
  simp at hp; subst hp
  simp -implicitDefEqProofs [x100, hl, hw, hfm]
 cases hle : leadsOf S ⟨vk, vn⟩ with
 | none =>
  rw [hle] at hl
  simp [k0, k1, k2, hle] at hp; subst hp
  simp -implicitDefEqProofs [x100, hl, hw, k0, k1, k2]
 | some k =>
  rw [hle] at hl
  dsimp only at hl
  obtain ⟨hks, _, _, _, o, hso, _⟩ := zh1 hle
  obtain ⟨row, off, cap, rfl, hcp, hcut, hget⟩ := zmt hr hso
  simp only [tObj] at hget
  have hof := hfn o (List.mem_of_getElem? hso)
  have hit := zdk (ext := ext) h501 o.fn hof
  have g0 : row[off + k * 5]? = some (.val (.int .u8 o.k)) := by simpa using zcy hget 0 (by omega)
  have g1 : row[off + k * 5 + 1]? = some (.val (.string o.s)) := zcy hget 1 (by omega)
  have g4 : row[off + k * 5 + 4]? = some (.val (.int .i64 o.fn)) := zcy hget 4 (by omega)
  have hk0 : ¬ ((k : Nat) : Int) < 0 := by omega
  have hk1 : ((k : Nat) : Int) < S.length := by omega
  simp only [hle, Option.bind_some, hso, k0, k1, k2, if_false] at hp
  by_cases k7 : vk = 7
  ·subst k7
   simp at hp; subst hp
   simp -implicitDefEqProofs [x100, hl, hw, hk0]
  by_cases k3 : vk = 3
  ·subst k3
   simp at hp; subst hp
   simp -implicitDefEqProofs [x100, hl, hw, g1, hk0, hk1, hks]
  by_cases k6 : vk = 6
  ·subst k6
   simp at hp; subst hp
   have hs1 : fnT.size + (dig o.fn).size ≤ 9223372036854775807 := by rw [← zqd]; exact hsz
   simp -implicitDefEqProofs [x100, hl, hw, g4, hit, hs1, hk0, hk1, hks]
  by_cases hd : (8 : Int) < inn
  ·simp [k7, k3, k6, hd] at hp; subst hp
   simp -implicitDefEqProofs [x100, hl, hw, k0, k1, k2, k7, k3, k6, hd, hk0]
  ·simp [k7, k3, k6, hd] at hp
theorem zo6 (h : code 502 = some x502) (h100 : code 100 = some x100) {sv : IV} {S : List Obj} (hr : Reads tObj sv S) (v : Val) (inn : Int) (b c : ByteArray) (l l2 : Bool) (hd : ¬ (8 < inn)) (hk : v.k ≠ 0 ∧ v.k ≠ 1 ∧ v.k ≠ 2 ∧ v.k ≠ 7 ∧ v.k ≠ 3 ∧ v.k ≠ 6) {o : Obj} (ho : objOf S v = some o)
  (hw : callW code ext 99 [.optr 0 0, .agg [.imm (.val (.int .u8 o.k)), strV o.s, .imm o.l.iv, int64 o.room, int64 o.fn], int64 inn] (rOne sv b l) = some (.tup [], rOne sv c l2)) :
  callW code ext 100 [.optr 0 0, .agg [.imm (.val (.int .u8 v.k)), int64 v.n], int64 inn] (rOne sv b l) = some (.tup [], rOne sv c l2) := by
 obtain ⟨k0, k1, k2, k7, k3, k6⟩ := hk
 have hl := zh3 (ext := ext) h hr v
 rw [zbr code ext h100]
 simp only [rNil, rOne, rTwo] at hw ⊢
 obtain ⟨vk, vn⟩ := v
 simp only at hl ⊢ k0 k1 k2 k7 k3 k6
 unfold objOf at ho
 unfold leadR at hl
 cases hle : leadsOf S ⟨vk, vn⟩ with
 | none => simp [hle] at ho
 | some k =>
  rw [hle] at hl ho
  dsimp only at hl
  rw [Option.bind_some] at ho
  have hks := (List.getElem?_eq_some_iff.1 ho).1
  obtain ⟨row, off, cap, rfl, hcp, hcut, hget⟩ := zmt hr ho
  simp only [tObj] at hget
  have hk0 : ¬ ((k : Nat) : Int) < 0 := by omega
  have hk1 : ((k : Nat) : Int) < S.length := by omega
  simp -implicitDefEqProofs [x100, hl, hw, hget, k0, k1, k2, k7, k3, k6, hd, hk0, hk1, hks]
end
end Go.EX


set_option maxHeartbeats 4000000
set_option linter.unusedVariables false
set_option linter.unusedSimpArgs false
namespace Go.EX
section
variable {code : Nat → Option XFun} {ext : Calls'}
theorem zpb (h : code 502 = some x502) (h501 : code 501 = some x501) (h100 : code 100 = some x100) {sv : IV} {S : List Obj} (hr : Reads tObj sv S) (v : Val) (hv : tVal.wf v) (inn : Int) (b c : ByteArray) (l l2 : Bool) (x : ByteArray)
  (hp : pieceOf S (decide (8 < inn)) v = some x) (hw : callW code ext 98 [.optr 0 0, strV x] (rOne sv b l) = some (.tup [], rTwo sv c l2)) (hfn : ∀ o ∈ S, (tInt .i64).wf o.fn) (hsz : x.size ≤ 9223372036854775807) :
  callW code ext 100 [.optr 0 0, .agg [.imm (.val (.int .u8 v.k)), int64 v.n], int64 inn] (rOne sv b l) = some (.tup [], rTwo sv c l2) := by
 have hl := zh3 (ext := ext) h hr v
 have hfm := zdk (ext := ext) h501 v.n hv.2
 rw [zbr code ext h100]
 simp only [rNil, rOne, rTwo] at hw ⊢
 obtain ⟨vk, vn⟩ := v
 simp only at hl hfm hp ⊢
 unfold pieceOf objOf at hp
 unfold leadR at hl
 by_cases k0 : vk = 0
 ·subst k0
  simp at hp; subst hp
  simp -implicitDefEqProofs [x100, hl, hw]
 by_cases k1 : vk = 1
 ·subst k1
  by_cases hn : vn = 1
  ·subst hn
   simp at hp; subst hp
   simp -implicitDefEqProofs [x100, hl, hw]
  ·simp [hn] at hp; subst hp
   simp -implicitDefEqProofs [x100, hl, hw, hn]
 by_cases k2 : vk = 2
 ·subst k2
  simp at hp; subst hp
  simp -implicitDefEqProofs [x100, hl, hw, hfm]
 cases hle : leadsOf S ⟨vk, vn⟩ with
 | none =>
  rw [hle] at hl
  simp [k0, k1, k2, hle] at hp; subst hp
  simp -implicitDefEqProofs [x100, hl, hw, k0, k1, k2]
 | some k =>
  rw [hle] at hl
  dsimp only at hl
  obtain ⟨hks, _, _, _, o, hso, _⟩ := zh1 hle
  obtain ⟨row, off, cap, rfl, hcp, hcut, hget⟩ := zmt hr hso
  simp only [tObj] at hget
  have hof := hfn o (List.mem_of_getElem? hso)
  have hit := zdk (ext := ext) h501 o.fn hof
  have g0 : row[off + k * 5]? = some (.val (.int .u8 o.k)) := by simpa using zcy hget 0 (by omega)
  have g1 : row[off + k * 5 + 1]? = some (.val (.string o.s)) := zcy hget 1 (by omega)
  have g4 : row[off + k * 5 + 4]? = some (.val (.int .i64 o.fn)) := zcy hget 4 (by omega)
  have hk0 : ¬ ((k : Nat) : Int) < 0 := by omega
  have hk1 : ((k : Nat) : Int) < S.length := by omega
  simp only [hle, Option.bind_some, hso, k0, k1, k2, if_false] at hp
  by_cases k7 : vk = 7
  ·subst k7
   simp at hp; subst hp
   simp -implicitDefEqProofs [x100, hl, hw, hk0]
  by_cases k3 : vk = 3
  ·subst k3
   simp at hp; subst hp
   simp -implicitDefEqProofs [x100, hl, hw, g1, hk0, hk1, hks]
  by_cases k6 : vk = 6
  ·subst k6
   simp at hp; subst hp
   have hs1 : fnT.size + (dig o.fn).size ≤ 9223372036854775807 := by rw [← zqd]; exact hsz
   simp -implicitDefEqProofs [x100, hl, hw, g4, hit, hs1, hk0, hk1, hks]
  by_cases hd : (8 : Int) < inn
  ·simp [k7, k3, k6, hd] at hp; subst hp
   simp -implicitDefEqProofs [x100, hl, hw, k0, k1, k2, k7, k3, k6, hd, hk0]
  ·simp [k7, k3, k6, hd] at hp
theorem zo7 (h : code 502 = some x502) (h100 : code 100 = some x100) {sv : IV} {S : List Obj} (hr : Reads tObj sv S) (v : Val) (inn : Int) (b c : ByteArray) (l l2 : Bool) (hd : ¬ (8 < inn)) (hk : v.k ≠ 0 ∧ v.k ≠ 1 ∧ v.k ≠ 2 ∧ v.k ≠ 7 ∧ v.k ≠ 3 ∧ v.k ≠ 6) {o : Obj} (ho : objOf S v = some o)
  (hw : callW code ext 99 [.optr 0 0, .agg [.imm (.val (.int .u8 o.k)), strV o.s, .imm o.l.iv, int64 o.room, int64 o.fn], int64 inn] (rOne sv b l) = some (.tup [], rTwo sv c l2)) :
  callW code ext 100 [.optr 0 0, .agg [.imm (.val (.int .u8 v.k)), int64 v.n], int64 inn] (rOne sv b l) = some (.tup [], rTwo sv c l2) := by
 obtain ⟨k0, k1, k2, k7, k3, k6⟩ := hk
 have hl := zh3 (ext := ext) h hr v
 rw [zbr code ext h100]
 simp only [rNil, rOne, rTwo] at hw ⊢
 obtain ⟨vk, vn⟩ := v
 simp only at hl ⊢ k0 k1 k2 k7 k3 k6
 unfold objOf at ho
 unfold leadR at hl
 cases hle : leadsOf S ⟨vk, vn⟩ with
 | none => simp [hle] at ho
 | some k =>
  rw [hle] at hl ho
  dsimp only at hl
  rw [Option.bind_some] at ho
  have hks := (List.getElem?_eq_some_iff.1 ho).1
  obtain ⟨row, off, cap, rfl, hcp, hcut, hget⟩ := zmt hr ho
  simp only [tObj] at hget
  have hk0 : ¬ ((k : Nat) : Int) < 0 := by omega
  have hk1 : ((k : Nat) : Int) < S.length := by omega
  simp -implicitDefEqProofs [x100, hl, hw, hget, k0, k1, k2, k7, k3, k6, hd, hk0, hk1, hks]
end
end Go.EX


set_option linter.unusedVariables false
set_option linter.unusedSimpArgs false
namespace Go.EX
section
variable {code : Nat → Option XFun} {ext : Calls'}
set_option maxHeartbeats 4000000 in
theorem zo8 (h : code 502 = some x502) (h501 : code 501 = some x501) (h100 : code 100 = some x100) {sv : IV} {S : List Obj} (hr : Reads tObj sv S) (v : Val) (hv : tVal.wf v) (inn : Int) (l2 : Bool) (x : ByteArray)
  (hp : pieceOf S (decide (8 < inn)) v = some x) (hw : callW code ext 98 [.optr 0 0, strV x] (rNil sv false) = some (.tup [], rNil sv l2)) (hfn : ∀ o ∈ S, (tInt .i64).wf o.fn) (hsz : x.size ≤ 9223372036854775807) :
  callW code ext 100 [.optr 0 0, .agg [.imm (.val (.int .u8 v.k)), int64 v.n], int64 inn] (rNil sv false) = some (.tup [], rNil sv l2) := by
 have hl := zh3 (ext := ext) h hr v
 have hfm := zdk (ext := ext) h501 v.n hv.2
 rw [zbr code ext h100]
 simp only [rNil, rOne, rTwo] at hw ⊢
 obtain ⟨vk, vn⟩ := v
 simp only at hl hfm hp ⊢
 unfold pieceOf objOf at hp
 unfold leadR at hl
 by_cases k0 : vk = 0
 ·subst k0
  simp at hp; subst hp
  simp -implicitDefEqProofs [x100, hl, hw]
 by_cases k1 : vk = 1
 ·subst k1
  by_cases hn : vn = 1
  ·subst hn
   simp at hp; subst hp
   simp -implicitDefEqProofs [x100, hl, hw]
  ·simp [hn] at hp; subst hp
   simp -implicitDefEqProofs [x100, hl, hw, hn]
 by_cases k2 : vk = 2
 ·subst k2
  simp at hp; subst hp
  simp -implicitDefEqProofs [x100, hl, hw, hfm]
 cases hle : leadsOf S ⟨vk, vn⟩ with
 | none =>
  rw [hle] at hl
  simp [k0, k1, k2, hle] at hp; subst hp
  simp -implicitDefEqProofs [x100, hl, hw, k0, k1, k2]
 | some k =>
  rw [hle] at hl
  dsimp only at hl
  obtain ⟨hks, _, _, _, o, hso, _⟩ := zh1 hle
  obtain ⟨row, off, cap, rfl, hcp, hcut, hget⟩ := zmt hr hso
  simp only [tObj] at hget
  have hof := hfn o (List.mem_of_getElem? hso)
  have hit := zdk (ext := ext) h501 o.fn hof
  have g0 : row[off + k * 5]? = some (.val (.int .u8 o.k)) := by simpa using zcy hget 0 (by omega)
  have g1 : row[off + k * 5 + 1]? = some (.val (.string o.s)) := zcy hget 1 (by omega)
  have g4 : row[off + k * 5 + 4]? = some (.val (.int .i64 o.fn)) := zcy hget 4 (by omega)
  have hk0 : ¬ ((k : Nat) : Int) < 0 := by omega
  have hk1 : ((k : Nat) : Int) < S.length := by omega
  simp only [hle, Option.bind_some, hso, k0, k1, k2, if_false] at hp
  by_cases k7 : vk = 7
  ·subst k7
   simp at hp; subst hp
   simp -implicitDefEqProofs [x100, hl, hw, hk0]
  by_cases k3 : vk = 3
  ·subst k3
   simp at hp; subst hp
   simp -implicitDefEqProofs [x100, hl, hw, g1, hk0, hk1, hks]
  by_cases k6 : vk = 6
  ·subst k6
   simp at hp; subst hp
   have hs1 : fnT.size + (dig o.fn).size ≤ 9223372036854775807 := by rw [← zqd]; exact hsz
   simp -implicitDefEqProofs [x100, hl, hw, g4, hit, hs1, hk0, hk1, hks]
  by_cases hd : (8 : Int) < inn
  ·simp [k7, k3, k6, hd] at hp; subst hp
   simp -implicitDefEqProofs [x100, hl, hw, k0, k1, k2, k7, k3, k6, hd, hk0]
  ·simp [k7, k3, k6, hd] at hp
end
end Go.EX


set_option maxHeartbeats 4000000
set_option linter.unusedVariables false
set_option linter.unusedSimpArgs false
namespace Go.EX
section
variable {code : Nat → Option XFun} {ext : Calls'}
theorem zo9 (h : code 502 = some x502) (h501 : code 501 = some x501) (h100 : code 100 = some x100) {sv : IV} {S : List Obj} (hr : Reads tObj sv S) (v : Val) (hv : tVal.wf v) (inn : Int) (c : ByteArray) (l2 : Bool) (x : ByteArray)
  (hp : pieceOf S (decide (8 < inn)) v = some x) (hw : callW code ext 98 [.optr 0 0, strV x] (rNil sv false) = some (.tup [], rOne sv c l2)) (hfn : ∀ o ∈ S, (tInt .i64).wf o.fn) (hsz : x.size ≤ 9223372036854775807) :
  callW code ext 100 [.optr 0 0, .agg [.imm (.val (.int .u8 v.k)), int64 v.n], int64 inn] (rNil sv false) = some (.tup [], rOne sv c l2) := by
 have hl := zh3 (ext := ext) h hr v
 have hfm := zdk (ext := ext) h501 v.n hv.2
 rw [zbr code ext h100]
 simp only [rNil, rOne, rTwo] at hw ⊢
 obtain ⟨vk, vn⟩ := v
 simp only at hl hfm hp ⊢
 unfold pieceOf objOf at hp
 unfold leadR at hl
 by_cases k0 : vk = 0
 ·subst k0
  simp at hp; subst hp
  simp -implicitDefEqProofs [x100, hl, hw]
 by_cases k1 : vk = 1
 ·subst k1
  by_cases hn : vn = 1
  ·subst hn
   simp at hp; subst hp
   simp -implicitDefEqProofs [x100, hl, hw]
  ·simp [hn] at hp; subst hp
   simp -implicitDefEqProofs [x100, hl, hw, hn]
 by_cases k2 : vk = 2
 ·subst k2
  simp at hp; subst hp
  simp -implicitDefEqProofs [x100, hl, hw, hfm]
 cases hle : leadsOf S ⟨vk, vn⟩ with
 | none =>
  rw [hle] at hl
  simp [k0, k1, k2, hle] at hp; subst hp
  simp -implicitDefEqProofs [x100, hl, hw, k0, k1, k2]
 | some k =>
  rw [hle] at hl
  dsimp only at hl
  obtain ⟨hks, _, _, _, o, hso, _⟩ := zh1 hle
  obtain ⟨row, off, cap, rfl, hcp, hcut, hget⟩ := zmt hr hso
  simp only [tObj] at hget
  have hof := hfn o (List.mem_of_getElem? hso)
  have hit := zdk (ext := ext) h501 o.fn hof
  have g0 : row[off + k * 5]? = some (.val (.int .u8 o.k)) := by simpa using zcy hget 0 (by omega)
  have g1 : row[off + k * 5 + 1]? = some (.val (.string o.s)) := zcy hget 1 (by omega)
  have g4 : row[off + k * 5 + 4]? = some (.val (.int .i64 o.fn)) := zcy hget 4 (by omega)
  have hk0 : ¬ ((k : Nat) : Int) < 0 := by omega
  have hk1 : ((k : Nat) : Int) < S.length := by omega
  simp only [hle, Option.bind_some, hso, k0, k1, k2, if_false] at hp
  by_cases k7 : vk = 7
  ·subst k7
   simp at hp; subst hp
   simp -implicitDefEqProofs [x100, hl, hw, hk0]
  by_cases k3 : vk = 3
  ·subst k3
   simp at hp; subst hp
   simp -implicitDefEqProofs [x100, hl, hw, g1, hk0, hk1, hks]
  by_cases k6 : vk = 6
  ·subst k6
   simp at hp; subst hp
   have hs1 : fnT.size + (dig o.fn).size ≤ 9223372036854775807 := by rw [← zqd]; exact hsz
   simp -implicitDefEqProofs [x100, hl, hw, g4, hit, hs1, hk0, hk1, hks]
  by_cases hd : (8 : Int) < inn
  ·simp [k7, k3, k6, hd] at hp; subst hp
   simp -implicitDefEqProofs [x100, hl, hw, k0, k1, k2, k7, k3, k6, hd, hk0]
  ·simp [k7, k3, k6, hd] at hp
theorem zo5 (h : code 502 = some x502) (h100 : code 100 = some x100) {sv : IV} {S : List Obj} (hr : Reads tObj sv S) (v : Val) (inn : Int) (c : ByteArray) (l2 : Bool) (hd : ¬ (8 < inn)) (hk : v.k ≠ 0 ∧ v.k ≠ 1 ∧ v.k ≠ 2 ∧ v.k ≠ 7 ∧ v.k ≠ 3 ∧ v.k ≠ 6) {o : Obj} (ho : objOf S v = some o)
  (hw : callW code ext 99 [.optr 0 0, .agg [.imm (.val (.int .u8 o.k)), strV o.s, .imm o.l.iv, int64 o.room, int64 o.fn], int64 inn] (rNil sv false) = some (.tup [], rOne sv c l2)) :
  callW code ext 100 [.optr 0 0, .agg [.imm (.val (.int .u8 v.k)), int64 v.n], int64 inn] (rNil sv false) = some (.tup [], rOne sv c l2) := by
 obtain ⟨k0, k1, k2, k7, k3, k6⟩ := hk
 have hl := zh3 (ext := ext) h hr v
 rw [zbr code ext h100]
 simp only [rNil, rOne, rTwo] at hw ⊢
 obtain ⟨vk, vn⟩ := v
 simp only at hl ⊢ k0 k1 k2 k7 k3 k6
 unfold objOf at ho
 unfold leadR at hl
 cases hle : leadsOf S ⟨vk, vn⟩ with
 | none => simp [hle] at ho
 | some k =>
  rw [hle] at hl ho
  dsimp only at hl
  rw [Option.bind_some] at ho
  have hks := (List.getElem?_eq_some_iff.1 ho).1
  obtain ⟨row, off, cap, rfl, hcp, hcut, hget⟩ := zmt hr ho
  simp only [tObj] at hget
  have hk0 : ¬ ((k : Nat) : Int) < 0 := by omega
  have hk1 : ((k : Nat) : Int) < S.length := by omega
  simp -implicitDefEqProofs [x100, hl, hw, hget, k0, k1, k2, k7, k3, k6, hd, hk0, hk1, hks]
end
end Go.EX


set_option linter.unusedVariables false
set_option linter.unusedSimpArgs false
namespace Go.EX
section
variable {code : Nat → Option XFun} {ext : Calls'}
abbrev cellsR_two (o : Obj) : List AV := [.imm (.val (.int .u8 o.k)), strV o.s, .imm o.l.iv, int64 o.room, int64 o.fn]
def memR_two (sv : IV) (o : Obj) (b : ByteArray) (l : Bool) : Mem := [.rich [.imm sv, .osl 3 0 1 b.size none, .imm (blI l)], .dead, .rich (cellsR_two o), .text (rowOfS b)]
set_option maxHeartbeats 4000000 in
theorem zha (h98 : code 98 = some x98S) {sv : IV} {inn : Int} (hinn : 0 ≤ inn ∧ inn ≤ 100) {f : Val → ByteArray × Bool → ByteArray × Bool} {o : Obj} (hI : ItemR code ext sv (inn + 1) f o.l.xs) (hl : o.l.xs.length ≤ 1000000) (en : ByteArray) (c0 : ByteArray) (l0 : Bool) (h0 : 0 < c0.size) (hB0 : c0.size ≤ 4096) (s0 : St)
  (hs0 : s0.tidy [0, 2, 4, 7, 8] = ⟨2, [(0, .optr 0 0), (2, int64 inn), (4, .optr 2 0), (7, strV en), (8, int64 0)], memR_two sv o c0 l0⟩) :
  ∃ e s', den code ext (.loop [0, 2, 4, 7, 8] x99L1) s0 = some (e, s') ∧ e ≠ .normal ∧
   (e = .exit 0 ∧ ∃ (j : Nat) (y : Bool) (b : ByteArray) (l : Bool), itemsR f (decide (o.k = 5)) o.l.xs 0 (c0, l0) = (b, l) ∧ 0 < b.size ∧ b.size ≤ 4096 ∧ s' = ⟨2, [(0, .optr 0 0), (2, int64 inn), (4, .optr 2 0), (7, strV en), (8, int64 (j : Nat)), (26, avb y)], memR_two sv o b l⟩) := by
 have hr := o.l.ok
 have hlen := zms hr
 refine zir (fun n s => ∃ (i : Nat) (b : ByteArray) (l : Bool), i + n = o.l.xs.length ∧ 0 < b.size ∧ b.size ≤ 4096 ∧ itemsR f (decide (o.k = 5)) o.l.xs 0 (c0, l0) = itemsR f (decide (o.k = 5)) (o.l.xs.drop i) i (b, l) ∧
  s.tidy [0, 2, 4, 7, 8] = ⟨2, [(0, .optr 0 0), (2, int64 inn), (4, .optr 2 0), (7, strV en), (8, int64 (i : Nat))], memR_two sv o b l⟩) _ ?_ o.l.xs.length _ ⟨0, c0, l0, by omega, h0, hB0, by simp, hs0⟩
 rintro n s ⟨i, b, l, hi, hb, hbB, hg, hst⟩
 rw [hst, hg]
 have hlt0 : (o.l.xs.length : Int) ≤ 9223372036854775807 := by omega
 by_cases hlt : i < o.l.xs.length
 ·have hx : o.l.xs[i]? = some o.l.xs[i] := List.getElem?_eq_getElem hlt
  have hmem : o.l.xs[i] ∈ o.l.xs := List.getElem_mem hlt
  obtain ⟨r2, o2, cap, hiv, hc, hcut, hget⟩ := zmt hr hx
  rw [List.drop_eq_getElem_cons hlt, itemsR] at *
  generalize o.l.xs[i] = v at hget hmem hg
  simp only [tVal] at hget
  have e1 : IntKind.wrap .i64 ((i : Int) + 1) = (i : Int) + 1 := wrapI64 (by omega) (by omega)
  have e2 : IntKind.wrap .i64 (inn + 1) = inn + 1 := wrapI64 (by omega) (by omega)
  simp only [memR_two, cellsR_two, hiv]
  generalize o.l.iv = liv at *
  cases l with
  | true =>
   refine ⟨.exit 0, _, by simp -implicitDefEqProofs [x99L1, hlt]; rfl, .inr ⟨by simp, rfl, i, false, b, true, by simp, hb, hbB, by simp only [memR_two, cellsR_two]⟩⟩
  | false =>
   rw [if_neg (by simp)]
   have hm2 := tmod2 i
   by_cases hk : o.k = 5 ∧ i % 2 = 1
   ·have hw := zmc (ext := ext) h98 sv b keyT false hb hbB (by decide)
    have q0 := zl4 (x := keyT) (l := false) hb
    have q1 := zl6 (x := keyT) (l := false) hbB
    obtain ⟨hk5, hodd⟩ := hk
    rw [hodd] at hm2
    simp only [hk5, decide_true, hodd, and_self, if_true] at *
    generalize putR (b, false) keyT = p at *
    obtain ⟨b1, l1⟩ := p
    obtain ⟨two, hv⟩ := hI.call v hmem b1 l1 q0 q1
    have hp := hI.pos v hmem (b1, l1) q0
    have hs := hI.size v hmem (b1, l1) q1
    generalize f v (b1, l1) = p2 at *
    obtain ⟨b2, l2⟩ := p2
    cases l1 <;> cases two <;>
    ·simp only [rOut, rOne, rTwo, Bool.not_true, Bool.not_false, Bool.false_eq_true, if_false, if_true] at hw hv ⊢
     refine ⟨.normal, _, by simp -implicitDefEqProofs [-intBin, q_lss, q_add, q_eql, x99L1, hlt, hget, hm2, hw, hv, e1, e2]; rfl, .inl ⟨rfl, n - 1, by omega, i + 1, b2, l2, by omega, hp, hs, rfl, by simp -implicitDefEqProofs⟩⟩
   ·by_cases h00 : 0 < i
    ·have hw := zmc (ext := ext) h98 sv b nextT false hb hbB (by decide)
     have q0 := zl4 (x := nextT) (l := false) hb
     have q1 := zl6 (x := nextT) (l := false) hbB
     have h00' : (0 : Int) < i := by omega
     have hno : ¬ (decide (o.k = 5) = true ∧ i % 2 = 1) := by simpa using hk
     rw [if_neg hno, if_pos h00]
     generalize putR (b, false) nextT = p at *
     obtain ⟨b1, l1⟩ := p
     obtain ⟨two, hv⟩ := hI.call v hmem b1 l1 q0 q1
     have hp := hI.pos v hmem (b1, l1) q0
     have hs := hI.size v hmem (b1, l1) q1
     generalize f v (b1, l1) = p2 at *
     obtain ⟨b2, l2⟩ := p2
     by_cases hk5 : o.k = 5
     ·have heven : i % 2 = 0 := by have : ¬ i % 2 = 1 := fun h => hk ⟨hk5, h⟩; omega
      rw [heven] at hm2
      have h01 : 0 < i := by omega
      cases l1 <;> cases two <;>
      ·simp only [rOut, rOne, rTwo, Bool.not_true, Bool.not_false, Bool.false_eq_true, if_false, if_true] at hw hv ⊢
       refine ⟨.normal, _, by simp -implicitDefEqProofs [-intBin, q_lss, q_gtr, q_add, q_eql, x99L1, hlt, hget, hk5, hm2, hw, hv, e1, e2, h01, h00']; rfl, .inl ⟨rfl, n - 1, by omega, i + 1, b2, l2, by omega, hp, hs, rfl, by simp -implicitDefEqProofs [hk5]⟩⟩
     ·have h01 : 0 < i := by omega
      cases l1 <;> cases two <;>
      ·simp only [rOut, rOne, rTwo, Bool.not_true, Bool.not_false, Bool.false_eq_true, if_false, if_true] at hw hv ⊢
       refine ⟨.normal, _, by simp -implicitDefEqProofs [-intBin, q_lss, q_gtr, q_add, q_eql, x99L1, hlt, hget, hk5, hw, hv, e1, e2, h01, h00']; rfl, .inl ⟨rfl, n - 1, by omega, i + 1, b2, l2, by omega, hp, hs, rfl, by simp -implicitDefEqProofs [hk5]⟩⟩
    ·have h00' : ¬ (0 : Int) < i := by omega
     have hi0 : i = 0 := by omega
     subst hi0
     obtain ⟨two, hv⟩ := hI.call v hmem b false hb hbB
     have hp := hI.pos v hmem (b, false) hb
     have hs := hI.size v hmem (b, false) hbB
     have hno : ¬ (decide (o.k = 5) = true ∧ 0 % 2 = 1) := by simp
     rw [if_neg hno, if_neg h00]
     simp only [Nat.zero_mul, Nat.add_zero] at hget
     have hm0 : intBin .rem .i64 0 2 = some (.int .i64 0) := rfl
     have e10 : IntKind.wrap .i64 1 = 1 := rfl
     generalize f v (b, false) = p2 at *
     obtain ⟨b2, l2⟩ := p2
     by_cases hk5 : o.k = 5 <;> cases two <;>
     ·simp only [rOut, rOne, rTwo, Bool.not_true, Bool.not_false, Bool.false_eq_true, if_false, if_true] at hv ⊢
      refine ⟨.normal, _, by simp -implicitDefEqProofs [-intBin, q_lss, q_gtr, q_add, q_eql, x99L1, hlt, hget, hk5, hm0, hv, e10, e2]; rfl, .inl ⟨rfl, n - 1, by omega, 1, b2, l2, by omega, hp, hs, rfl, by simp -implicitDefEqProofs [hk5]⟩⟩
 ·have hie : i = o.l.xs.length := by omega
  subst hie
  rw [List.drop_eq_nil_of_le (Nat.le_refl _), itemsR]
  simp only [memR_two, cellsR_two]
  refine ⟨.exit 0, _, by simp -implicitDefEqProofs [x99L1, hlen]; rfl, .inr ⟨by simp, rfl, o.l.xs.length, false, b, l, rfl, hb, hbB, by simp only [memR_two, cellsR_two]⟩⟩
end
end Go.EX


set_option linter.unusedVariables false
set_option linter.unusedSimpArgs false
namespace Go.EX
section
variable {code : Nat → Option XFun} {ext : Calls'}
abbrev cellsR_one (o : Obj) : List AV := [.imm (.val (.int .u8 o.k)), strV o.s, .imm o.l.iv, int64 o.room, int64 o.fn]
def memR_one (sv : IV) (o : Obj) (b : ByteArray) (l : Bool) : Mem := [.rich [.imm sv, .osl 2 0 1 b.size none, .imm (blI l)], .rich (cellsR_one o), .text (rowOfS b)]
set_option maxHeartbeats 4000000 in
theorem zg8 (h98 : code 98 = some x98S) {sv : IV} {inn : Int} (hinn : 0 ≤ inn ∧ inn ≤ 100) {f : Val → ByteArray × Bool → ByteArray × Bool} {o : Obj} (hI : ItemR code ext sv (inn + 1) f o.l.xs) (hl : o.l.xs.length ≤ 1000000) (en : ByteArray) (c0 : ByteArray) (l0 : Bool) (h0 : 0 < c0.size) (hB0 : c0.size ≤ 4096) (s0 : St)
  (hs0 : s0.tidy [0, 2, 4, 7, 8] = ⟨1, [(0, .optr 0 0), (2, int64 inn), (4, .optr 1 0), (7, strV en), (8, int64 0)], memR_one sv o c0 l0⟩) :
  ∃ e s', den code ext (.loop [0, 2, 4, 7, 8] x99L1) s0 = some (e, s') ∧ e ≠ .normal ∧
   (e = .exit 0 ∧ ∃ (j : Nat) (y : Bool) (b : ByteArray) (l : Bool), itemsR f (decide (o.k = 5)) o.l.xs 0 (c0, l0) = (b, l) ∧ 0 < b.size ∧ b.size ≤ 4096 ∧ s' = ⟨1, [(0, .optr 0 0), (2, int64 inn), (4, .optr 1 0), (7, strV en), (8, int64 (j : Nat)), (26, avb y)], memR_one sv o b l⟩) := by
 have hr := o.l.ok
 have hlen := zms hr
 refine zir (fun n s => ∃ (i : Nat) (b : ByteArray) (l : Bool), i + n = o.l.xs.length ∧ 0 < b.size ∧ b.size ≤ 4096 ∧ itemsR f (decide (o.k = 5)) o.l.xs 0 (c0, l0) = itemsR f (decide (o.k = 5)) (o.l.xs.drop i) i (b, l) ∧
  s.tidy [0, 2, 4, 7, 8] = ⟨1, [(0, .optr 0 0), (2, int64 inn), (4, .optr 1 0), (7, strV en), (8, int64 (i : Nat))], memR_one sv o b l⟩) _ ?_ o.l.xs.length _ ⟨0, c0, l0, by omega, h0, hB0, by simp, hs0⟩
 rintro n s ⟨i, b, l, hi, hb, hbB, hg, hst⟩
 rw [hst, hg]
 have hlt0 : (o.l.xs.length : Int) ≤ 9223372036854775807 := by omega
 by_cases hlt : i < o.l.xs.length
 ·have hx : o.l.xs[i]? = some o.l.xs[i] := List.getElem?_eq_getElem hlt
  have hmem : o.l.xs[i] ∈ o.l.xs := List.getElem_mem hlt
  obtain ⟨r2, o2, cap, hiv, hc, hcut, hget⟩ := zmt hr hx
  rw [List.drop_eq_getElem_cons hlt, itemsR] at *
  generalize o.l.xs[i] = v at hget hmem hg
  simp only [tVal] at hget
  have e1 : IntKind.wrap .i64 ((i : Int) + 1) = (i : Int) + 1 := wrapI64 (by omega) (by omega)
  have e2 : IntKind.wrap .i64 (inn + 1) = inn + 1 := wrapI64 (by omega) (by omega)
  simp only [memR_one, cellsR_one, hiv]
  generalize o.l.iv = liv at *
  cases l with
  | true =>
   refine ⟨.exit 0, _, by simp -implicitDefEqProofs [x99L1, hlt]; rfl, .inr ⟨by simp, rfl, i, false, b, true, by simp, hb, hbB, by simp only [memR_one, cellsR_one]⟩⟩
  | false =>
   rw [if_neg (by simp)]
   have hm2 := tmod2 i
   by_cases hk : o.k = 5 ∧ i % 2 = 1
   ·have hw := zmc (ext := ext) h98 sv b keyT false hb hbB (by decide)
    have q0 := zl4 (x := keyT) (l := false) hb
    have q1 := zl6 (x := keyT) (l := false) hbB
    obtain ⟨hk5, hodd⟩ := hk
    rw [hodd] at hm2
    simp only [hk5, decide_true, hodd, and_self, if_true] at *
    generalize putR (b, false) keyT = p at *
    obtain ⟨b1, l1⟩ := p
    obtain ⟨two, hv⟩ := hI.call v hmem b1 l1 q0 q1
    have hp := hI.pos v hmem (b1, l1) q0
    have hs := hI.size v hmem (b1, l1) q1
    generalize f v (b1, l1) = p2 at *
    obtain ⟨b2, l2⟩ := p2
    cases l1 <;> cases two <;>
    ·simp only [rOut, rOne, rTwo, Bool.not_true, Bool.not_false, Bool.false_eq_true, if_false, if_true] at hw hv ⊢
     refine ⟨.normal, _, by simp -implicitDefEqProofs [-intBin, q_lss, q_add, q_eql, x99L1, hlt, hget, hm2, hw, hv, e1, e2]; rfl, .inl ⟨rfl, n - 1, by omega, i + 1, b2, l2, by omega, hp, hs, rfl, by simp -implicitDefEqProofs⟩⟩
   ·by_cases h00 : 0 < i
    ·have hw := zmc (ext := ext) h98 sv b nextT false hb hbB (by decide)
     have q0 := zl4 (x := nextT) (l := false) hb
     have q1 := zl6 (x := nextT) (l := false) hbB
     have h00' : (0 : Int) < i := by omega
     have hno : ¬ (decide (o.k = 5) = true ∧ i % 2 = 1) := by simpa using hk
     rw [if_neg hno, if_pos h00]
     generalize putR (b, false) nextT = p at *
     obtain ⟨b1, l1⟩ := p
     obtain ⟨two, hv⟩ := hI.call v hmem b1 l1 q0 q1
     have hp := hI.pos v hmem (b1, l1) q0
     have hs := hI.size v hmem (b1, l1) q1
     generalize f v (b1, l1) = p2 at *
     obtain ⟨b2, l2⟩ := p2
     by_cases hk5 : o.k = 5
     ·have heven : i % 2 = 0 := by have : ¬ i % 2 = 1 := fun h => hk ⟨hk5, h⟩; omega
      rw [heven] at hm2
      have h01 : 0 < i := by omega
      cases l1 <;> cases two <;>
      ·simp only [rOut, rOne, rTwo, Bool.not_true, Bool.not_false, Bool.false_eq_true, if_false, if_true] at hw hv ⊢
       refine ⟨.normal, _, by simp -implicitDefEqProofs [-intBin, q_lss, q_gtr, q_add, q_eql, x99L1, hlt, hget, hk5, hm2, hw, hv, e1, e2, h01, h00']; rfl, .inl ⟨rfl, n - 1, by omega, i + 1, b2, l2, by omega, hp, hs, rfl, by simp -implicitDefEqProofs [hk5]⟩⟩
     ·have h01 : 0 < i := by omega
      cases l1 <;> cases two <;>
      ·simp only [rOut, rOne, rTwo, Bool.not_true, Bool.not_false, Bool.false_eq_true, if_false, if_true] at hw hv ⊢
       refine ⟨.normal, _, by simp -implicitDefEqProofs [-intBin, q_lss, q_gtr, q_add, q_eql, x99L1, hlt, hget, hk5, hw, hv, e1, e2, h01, h00']; rfl, .inl ⟨rfl, n - 1, by omega, i + 1, b2, l2, by omega, hp, hs, rfl, by simp -implicitDefEqProofs [hk5]⟩⟩
    ·have h00' : ¬ (0 : Int) < i := by omega
     have hi0 : i = 0 := by omega
     subst hi0
     obtain ⟨two, hv⟩ := hI.call v hmem b false hb hbB
     have hp := hI.pos v hmem (b, false) hb
     have hs := hI.size v hmem (b, false) hbB
     have hno : ¬ (decide (o.k = 5) = true ∧ 0 % 2 = 1) := by simp
     rw [if_neg hno, if_neg h00]
     simp only [Nat.zero_mul, Nat.add_zero] at hget
     have hm0 : intBin .rem .i64 0 2 = some (.int .i64 0) := rfl
     have e10 : IntKind.wrap .i64 1 = 1 := rfl
     generalize f v (b, false) = p2 at *
     obtain ⟨b2, l2⟩ := p2
     by_cases hk5 : o.k = 5 <;> cases two <;>
     ·simp only [rOut, rOne, rTwo, Bool.not_true, Bool.not_false, Bool.false_eq_true, if_false, if_true] at hv ⊢
      refine ⟨.normal, _, by simp -implicitDefEqProofs [-intBin, q_lss, q_gtr, q_add, q_eql, x99L1, hlt, hget, hk5, hm0, hv, e10, e2]; rfl, .inl ⟨rfl, n - 1, by omega, 1, b2, l2, by omega, hp, hs, rfl, by simp -implicitDefEqProofs [hk5]⟩⟩
 ·have hie : i = o.l.xs.length := by omega
  subst hie
  rw [List.drop_eq_nil_of_le (Nat.le_refl _), itemsR]
  simp only [memR_one, cellsR_one]
  refine ⟨.exit 0, _, by simp -implicitDefEqProofs [x99L1, hlen]; rfl, .inr ⟨by simp, rfl, o.l.xs.length, false, b, l, rfl, hb, hbB, by simp only [memR_one, cellsR_one]⟩⟩
end
end Go.EX


set_option linter.unusedVariables false
set_option linter.unusedSimpArgs false
namespace Go.EX
section
variable {code : Nat → Option XFun} {ext : Calls'}
theorem zl3 {p : ByteArray × Bool} {x : ByteArray} (h : (putR p x).2 = true) : putR p x = (p.1, true) := by
 unfold putR at h ⊢
 split
 ·rfl
 ·rename_i hn; rw [if_neg hn] at h; cases h
theorem zl8 (b x : ByteArray) : putR (b, true) x = (b, true) := by simp [putR]
theorem zg9 (f : Val → ByteArray × Bool → ByteArray × Bool) (m : Bool) (xs : List Val) (i : Nat) (b : ByteArray) : itemsR f m xs i (b, true) = (b, true) := by
 cases xs with
 | nil => rfl
 | cons v r => rw [itemsR, if_pos rfl]
def memL (sv : IV) (o : Obj) (b : ByteArray) : Mem := [.rich [.imm sv, .osl 1 0 1 b.size none, .imm (blI true)], .text (rowOfS b), .rich (cellsR_two o)]
theorem zg7 {sv : IV} {inn : Int} {o : Obj} (hl : o.l.xs.length ≤ 1000000) (en b : ByteArray) (s0 : St)
  (hs0 : s0.tidy [0, 2, 4, 7, 8] = ⟨2, [(0, .optr 0 0), (2, int64 inn), (4, .optr 2 0), (7, strV en), (8, int64 0)], memL sv o b⟩) :
  ∃ e s', den code ext (.loop [0, 2, 4, 7, 8] x99L1) s0 = some (e, s') ∧ e ≠ .normal ∧ (e = .exit 0 ∧ ∃ y : Bool, s' = ⟨2, [(0, .optr 0 0), (2, int64 inn), (4, .optr 2 0), (7, strV en), (8, int64 0), (26, avb y)], memL sv o b⟩) := by
 have hlen := zms o.l.ok
 refine zir (fun n s => s.tidy [0, 2, 4, 7, 8] = ⟨2, [(0, .optr 0 0), (2, int64 inn), (4, .optr 2 0), (7, strV en), (8, int64 0)], memL sv o b⟩) _ ?_ 0 _ hs0
 intro n s hst
 rw [hst]
 simp only [memL, cellsR_two]
 by_cases h0 : 0 < o.l.xs.length
 ·have h0' : (0 : Int) < o.l.xs.length := by omega
  exact ⟨.exit 0, _, by simp -implicitDefEqProofs [x99L1, hlen, h0, h0']; rfl, .inr ⟨by simp, rfl, false, by simp only [memL, cellsR_two]⟩⟩
 ·have h00 : o.l.xs.length = 0 := by omega
  have h0' : ¬ (0 : Int) < o.l.xs.length := by omega
  exact ⟨.exit 0, _, by simp -implicitDefEqProofs [x99L1, hlen, h0, h0', h00]; rfl, .inr ⟨by simp, rfl, false, by simp only [memL, cellsR_two]⟩⟩
end
end Go.EX


set_option maxHeartbeats 4000000
set_option linter.unusedVariables false
set_option linter.unusedSimpArgs false
namespace Go.EX
section
variable {code : Nat → Option XFun} {ext : Calls'}
theorem zoc (h98 : code 98 = some x98S) (h99 : code 99 = some x99) {sv : IV} {inn : Int} (hinn : 0 ≤ inn ∧ inn ≤ 100) {f : Val → ByteArray × Bool → ByteArray × Bool} {o : Obj} (hI : ItemR code ext sv (inn + 1) f o.l.xs) (hl : o.l.xs.length ≤ 1000000) (b : ByteArray) (l : Bool) (hb : 0 < b.size) (hbB : b.size ≤ 4096) (hk5 : o.k = 5) :
  ∃ two, callW code ext 99 [.optr 0 0, .agg [.imm (.val (.int .u8 o.k)), strV o.s, .imm o.l.iv, int64 o.room, int64 o.fn], int64 inn] (rOne sv b l) = some (.tup [], rOut two sv (rowR f o (b, l))) := by
 have hlen := zms o.l.ok
 have hm2 := tmod2 o.l.xs.length
 rw [zbr code ext h99]
 unfold rowR
 have hw := zmc (ext := ext) h98 sv b openM l hb hbB (by decide)
 have q0 := zl4 (x := openM) (l := l) hb
 have q1 := zl6 (x := openM) (l := l) hbB
 have hL2 := fun c0 l0 h1 h2 s0 hs => zha (inn := inn) h98 hinn hI hl endM c0 l0 h1 h2 s0 hs
 have hL1 := fun s0 hs => zg7 (code := code) (ext := ext) (sv := sv) (inn := inn) hl endM b s0 hs
 unfold x99
 generalize x99L1 = L at *
 simp only [hk5, decide_true, if_true, true_and]
 simp only [hk5, decide_true, if_true, true_and] at hL2
 cases hlg : (putR (b, l) openM).2 with
 | true =>
  have hp := zl3 hlg
  rw [hp] at hw ⊢
  rw [zg9]
  obtain ⟨e, s', lp, _, rfl, y, rfl⟩ := hL1 ⟨2, [(0, .optr 0 0), (2, int64 inn), (4, .optr 2 0), (7, strV endM), (8, int64 0)], memL sv o b⟩ (by simp only [memL, cellsR_two]; simp -implicitDefEqProofs)
  have hw1 := zmc (ext := ext) h98 sv b lackT true hb hbB (by decide)
  have hw2 := zmc (ext := ext) h98 sv b endM true hb hbB (by decide)
  refine ⟨false, ?_⟩
  simp only [zl8, ite_self] at hw1 hw2 ⊢
  simp only [hk5, rOut, rOne, memL, cellsR_two, Bool.not_true, Bool.false_eq_true, if_false] at lp hw hw1 hw2 ⊢
  by_cases hodd : o.l.xs.length % 2 = 1
  ·rw [hodd] at hm2
   simp -implicitDefEqProofs [-intBin, q_eql, hlen, hw, lp, hm2, hw1, hw2, hk5]
  ·have heven : o.l.xs.length % 2 = 0 := by omega
   rw [heven] at hm2
   simp -implicitDefEqProofs [-intBin, q_eql, hlen, hw, lp, hm2, hw2, hk5]
 | false =>
  generalize putR (b, l) openM = p at *
  obtain ⟨b1, l0⟩ := p
  simp only at hlg
  subst hlg
  obtain ⟨e, s', lp, _, rfl, j, y, c1, l1, hq, g0, g1, rfl⟩ := hL2 b1 false q0 q1 ⟨2, [(0, .optr 0 0), (2, int64 inn), (4, .optr 2 0), (7, strV endM), (8, int64 0)], memR_two sv o b1 false⟩ (by simp only [memR_two, cellsR_two]; simp -implicitDefEqProofs)
  rw [hq]
  refine ⟨true, ?_⟩
  by_cases hodd : o.l.xs.length % 2 = 1
  ·simp only [hodd, if_true]
   rw [hodd] at hm2
   have hw1 := zmc (ext := ext) h98 sv c1 lackT l1 g0 g1 (by decide)
   have q2 := zl4 (x := lackT) (l := l1) g0
   have q3 := zl6 (x := lackT) (l := l1) g1
   generalize putR (c1, l1) lackT = p2 at *
   obtain ⟨c2, l2⟩ := p2
   have hw2 := zmc (ext := ext) h98 sv c2 endM l2 q2 q3 (by decide)
   generalize putR (c2, l2) endM = p3 at *
   obtain ⟨c3, l3⟩ := p3
   cases l2 <;> cases l3 <;>
   ·simp only [hk5, rOut, rOne, rTwo, memR_two, cellsR_two, Bool.not_true, Bool.not_false, Bool.false_eq_true, if_false, if_true] at lp hw hw1 hw2 ⊢
    simp -implicitDefEqProofs [-intBin, q_eql, hlen, hw, lp, hm2, hw1, hw2, hk5]
  ·simp only [hodd, if_false]
   have heven : o.l.xs.length % 2 = 0 := by omega
   rw [heven] at hm2
   have hw2 := zmc (ext := ext) h98 sv c1 endM l1 g0 g1 (by decide)
   generalize putR (c1, l1) endM = p3 at *
   obtain ⟨c3, l3⟩ := p3
   cases l3 <;>
   ·simp only [hk5, rOut, rOne, rTwo, memR_two, cellsR_two, Bool.not_true, Bool.not_false, Bool.false_eq_true, if_false, if_true] at lp hw hw2 ⊢
    simp -implicitDefEqProofs [-intBin, q_eql, hlen, hw, lp, hm2, hw2, hk5]
theorem zoa (h98 : code 98 = some x98S) (h99 : code 99 = some x99) {sv : IV} {inn : Int} (hinn : 0 ≤ inn ∧ inn ≤ 100) {f : Val → ByteArray × Bool → ByteArray × Bool} {o : Obj} (hI : ItemR code ext sv (inn + 1) f o.l.xs) (hl : o.l.xs.length ≤ 1000000) (hk5 : o.k = 5) :
  callW code ext 99 [.optr 0 0, .agg [.imm (.val (.int .u8 o.k)), strV o.s, .imm o.l.iv, int64 o.room, int64 o.fn], int64 inn] (rNil sv false) = some (.tup [], rOne sv (rowR f o (.empty, false)).1 (rowR f o (.empty, false)).2) := by
 have hlen := zms o.l.ok
 have hm2 := tmod2 o.l.xs.length
 rw [zbr code ext h99]
 unfold rowR
 have hw := zmb (ext := ext) h98 sv openM (by decide)
 rw [if_neg (by decide), if_neg (by decide)] at hw
 have hpe : putR (.empty, false) openM = (openM, false) := by unfold putR; rw [if_neg (by decide)]; rfl
 have hL2 := fun c0 l0 h1 h2 s0 hs => zg8 (inn := inn) h98 hinn hI hl endM c0 l0 h1 h2 s0 hs
 unfold x99
 generalize x99L1 = L at *
 simp only [hk5, decide_true, if_true, true_and]
 simp only [hk5, decide_true, if_true, true_and] at hL2
 rw [hpe]
 obtain ⟨e, s', lp, _, rfl, j, y, c1, l1, hq, g0, g1, rfl⟩ := hL2 openM false (by decide) (by decide) ⟨1, [(0, .optr 0 0), (2, int64 inn), (4, .optr 1 0), (7, strV endM), (8, int64 0)], memR_one sv o openM false⟩ (by simp only [memR_one, cellsR_one]; simp -implicitDefEqProofs)
 rw [hq]
 by_cases hodd : o.l.xs.length % 2 = 1
 ·simp only [hodd, if_true]
  rw [hodd] at hm2
  have hw1 := zmc (ext := ext) h98 sv c1 lackT l1 g0 g1 (by decide)
  have q2 := zl4 (x := lackT) (l := l1) g0
  have q3 := zl6 (x := lackT) (l := l1) g1
  generalize putR (c1, l1) lackT = p2 at *
  obtain ⟨c2, l2⟩ := p2
  have hw2 := zmc (ext := ext) h98 sv c2 endM l2 q2 q3 (by decide)
  generalize putR (c2, l2) endM = p3 at *
  obtain ⟨c3, l3⟩ := p3
  cases l2 <;> cases l3 <;>
  ·simp only [hk5, rOut, rNil, rOne, rTwo, memR_one, cellsR_one, Bool.not_true, Bool.not_false, Bool.false_eq_true, if_false, if_true] at lp hw hw1 hw2 ⊢
   simp -implicitDefEqProofs [-intBin, q_eql, hlen, hw, lp, hm2, hw1, hw2, hk5]
 ·simp only [hodd, if_false]
  have heven : o.l.xs.length % 2 = 0 := by omega
  rw [heven] at hm2
  have hw2 := zmc (ext := ext) h98 sv c1 endM l1 g0 g1 (by decide)
  generalize putR (c1, l1) endM = p3 at *
  obtain ⟨c3, l3⟩ := p3
  cases l3 <;>
  ·simp only [hk5, rOut, rNil, rOne, rTwo, memR_one, cellsR_one, Bool.not_true, Bool.not_false, Bool.false_eq_true, if_false, if_true] at lp hw hw2 ⊢
   simp -implicitDefEqProofs [-intBin, q_eql, hlen, hw, lp, hm2, hw2, hk5]
end
end Go.EX


set_option maxHeartbeats 4000000
set_option linter.unusedVariables false
set_option linter.unusedSimpArgs false
namespace Go.EX
section
variable {code : Nat → Option XFun} {ext : Calls'}
theorem zod (h98 : code 98 = some x98S) (h99 : code 99 = some x99) {sv : IV} {inn : Int} (hinn : 0 ≤ inn ∧ inn ≤ 100) {f : Val → ByteArray × Bool → ByteArray × Bool} {o : Obj} (hI : ItemR code ext sv (inn + 1) f o.l.xs) (hl : o.l.xs.length ≤ 1000000) (b : ByteArray) (l : Bool) (hb : 0 < b.size) (hbB : b.size ≤ 4096) (hk5 : ¬ o.k = 5) :
  ∃ two, callW code ext 99 [.optr 0 0, .agg [.imm (.val (.int .u8 o.k)), strV o.s, .imm o.l.iv, int64 o.room, int64 o.fn], int64 inn] (rOne sv b l) = some (.tup [], rOut two sv (rowR f o (b, l))) := by
 have hlen := zms o.l.ok
 have hm2 := tmod2 o.l.xs.length
 have hkd : decide (o.k = 5) = false := by simpa using hk5
 rw [zbr code ext h99]
 unfold rowR
 have hw := zmc (ext := ext) h98 sv b openL l hb hbB (by decide)
 have q0 := zl4 (x := openL) (l := l) hb
 have q1 := zl6 (x := openL) (l := l) hbB
 have hL2 := fun c0 l0 h1 h2 s0 hs => zha (inn := inn) h98 hinn hI hl endL c0 l0 h1 h2 s0 hs
 have hL1 := fun s0 hs => zg7 (code := code) (ext := ext) (sv := sv) (inn := inn) hl endL b s0 hs
 unfold x99
 generalize x99L1 = L at *
 simp only [hkd, Bool.false_eq_true, if_false, false_and]
 simp only [hkd, Bool.false_eq_true, if_false, false_and] at hL2
 cases hlg : (putR (b, l) openL).2 with
 | true =>
  have hp := zl3 hlg
  rw [hp] at hw ⊢
  rw [zg9]
  obtain ⟨e, s', lp, _, rfl, y, rfl⟩ := hL1 ⟨2, [(0, .optr 0 0), (2, int64 inn), (4, .optr 2 0), (7, strV endL), (8, int64 0)], memL sv o b⟩ (by simp only [memL, cellsR_two]; simp -implicitDefEqProofs)
  have hw1 := zmc (ext := ext) h98 sv b lackT true hb hbB (by decide)
  have hw2 := zmc (ext := ext) h98 sv b endL true hb hbB (by decide)
  refine ⟨false, ?_⟩
  simp only [zl8, ite_self] at hw1 hw2 ⊢
  simp only [rOut, rOne, memL, cellsR_two, Bool.not_true, Bool.false_eq_true, if_false] at lp hw hw1 hw2 ⊢
  simp -implicitDefEqProofs [-intBin, q_eql, hlen, hw, lp, hw2, hk5]
 | false =>
  generalize putR (b, l) openL = p at *
  obtain ⟨b1, l0⟩ := p
  simp only at hlg
  subst hlg
  obtain ⟨e, s', lp, _, rfl, j, y, c1, l1, hq, g0, g1, rfl⟩ := hL2 b1 false q0 q1 ⟨2, [(0, .optr 0 0), (2, int64 inn), (4, .optr 2 0), (7, strV endL), (8, int64 0)], memR_two sv o b1 false⟩ (by simp only [memR_two, cellsR_two]; simp -implicitDefEqProofs)
  rw [hq]
  refine ⟨true, ?_⟩
  have hw2 := zmc (ext := ext) h98 sv c1 endL l1 g0 g1 (by decide)
  generalize putR (c1, l1) endL = p3 at *
  obtain ⟨c3, l3⟩ := p3
  cases l3 <;>
  ·simp only [rOut, rOne, rTwo, memR_two, cellsR_two, Bool.not_true, Bool.not_false, Bool.false_eq_true, if_false, if_true] at lp hw hw2 ⊢
   simp -implicitDefEqProofs [-intBin, q_eql, hlen, hw, lp, hw2, hk5]
theorem zob (h98 : code 98 = some x98S) (h99 : code 99 = some x99) {sv : IV} {inn : Int} (hinn : 0 ≤ inn ∧ inn ≤ 100) {f : Val → ByteArray × Bool → ByteArray × Bool} {o : Obj} (hI : ItemR code ext sv (inn + 1) f o.l.xs) (hl : o.l.xs.length ≤ 1000000) (hk5 : ¬ o.k = 5) :
  callW code ext 99 [.optr 0 0, .agg [.imm (.val (.int .u8 o.k)), strV o.s, .imm o.l.iv, int64 o.room, int64 o.fn], int64 inn] (rNil sv false) = some (.tup [], rOne sv (rowR f o (.empty, false)).1 (rowR f o (.empty, false)).2) := by
 have hlen := zms o.l.ok
 have hm2 := tmod2 o.l.xs.length
 have hkd : decide (o.k = 5) = false := by simpa using hk5
 rw [zbr code ext h99]
 unfold rowR
 have hw := zmb (ext := ext) h98 sv openL (by decide)
 rw [if_neg (by decide), if_neg (by decide)] at hw
 have hpe : putR (.empty, false) openL = (openL, false) := by unfold putR; rw [if_neg (by decide)]; rfl
 have hL2 := fun c0 l0 h1 h2 s0 hs => zg8 (inn := inn) h98 hinn hI hl endL c0 l0 h1 h2 s0 hs
 unfold x99
 generalize x99L1 = L at *
 simp only [hkd, Bool.false_eq_true, if_false, false_and]
 simp only [hkd, Bool.false_eq_true, if_false, false_and] at hL2
 rw [hpe]
 obtain ⟨e, s', lp, _, rfl, j, y, c1, l1, hq, g0, g1, rfl⟩ := hL2 openL false (by decide) (by decide) ⟨1, [(0, .optr 0 0), (2, int64 inn), (4, .optr 1 0), (7, strV endL), (8, int64 0)], memR_one sv o openL false⟩ (by simp only [memR_one, cellsR_one]; simp -implicitDefEqProofs)
 rw [hq]
 have hw2 := zmc (ext := ext) h98 sv c1 endL l1 g0 g1 (by decide)
 generalize putR (c1, l1) endL = p3 at *
 obtain ⟨c3, l3⟩ := p3
 cases l3 <;>
 ·simp only [rOut, rNil, rOne, rTwo, memR_one, cellsR_one, Bool.not_true, Bool.not_false, Bool.false_eq_true, if_false, if_true] at lp hw hw2 ⊢
  simp -implicitDefEqProofs [-intBin, q_eql, hlen, hw, lp, hw2, hk5]
end
end Go.EX


set_option linter.unusedVariables false
set_option linter.unusedSimpArgs false
namespace Go.EX
theorem zl5 {p : ByteArray × Bool} {x : ByteArray} (h0 : 0 < p.1.size) : 0 < (putR p x).1.size := by obtain ⟨b, l⟩ := p; exact zl4 h0
theorem zl7 {p : ByteArray × Bool} {x : ByteArray} (hb : p.1.size ≤ 4096) : (putR p x).1.size ≤ 4096 := by obtain ⟨b, l⟩ := p; exact zl6 hb
theorem zg6 {P : ByteArray × Bool → Prop} {f : Val → ByteArray × Bool → ByteArray × Bool} {m : Bool} (hput : ∀ p x, P p → P (putR p x)) : ∀ (xs : List Val) (i : Nat) (p : ByteArray × Bool), (∀ v ∈ xs, ∀ p, P p → P (f v p)) → P p → P (itemsR f m xs i p)
 | [], i, p, _, h => h
 | v :: r, i, p, hf, h => by
  unfold itemsR
  split
  ·exact h
  ·refine zg6 hput r (i + 1) _ (fun w hw => hf w (List.mem_cons_of_mem _ hw)) (hf v (List.mem_cons_self ..) _ ?_)
   split
   ·exact hput _ _ h
   ·split
    ·exact hput _ _ h
    ·exact h
theorem zn1 {P : ByteArray × Bool → Prop} {f : Val → ByteArray × Bool → ByteArray × Bool} {o : Obj} (hput : ∀ p x, P p → P (putR p x)) (hf : ∀ v ∈ o.l.xs, ∀ p, P p → P (f v p)) (p : ByteArray × Bool) (h : P p) : P (rowR f o p) := by
 unfold rowR
 dsimp only
 have := zg6 (m := decide (o.k = 5)) hput o.l.xs 0 (putR p (if decide (o.k = 5) = true then openM else openL)) hf (hput _ _ h)
 refine hput _ _ ?_
 split
 ·exact hput _ _ this
 ·exact this
theorem zsi {P : ByteArray × Bool → Prop} (S : List Obj) (hput : ∀ p x, P p → P (putR p x)) : ∀ (d : Nat) (v : Val) (p : ByteArray × Bool), P p → P (valR S d v p)
 | 0, v, p, h => by
  unfold valR
  cases hp : pieceOf S (0 == 0) v with
  | some x => exact hput _ _ h
  | none => exact h
 | d + 1, v, p, h => by
  unfold valR
  cases hp : pieceOf S (d + 1 == 0) v with
  | some x => exact hput _ _ h
  | none =>
   cases ho : objOf S v with
   | none => exact h
   | some o => exact zn1 hput (fun w _ q hq => zsi S hput d w q hq) p h
theorem zsj {S : List Obj} {d : Nat} {v : Val} {o : Obj} (hp : pieceOf S (d + 1 == 0) v = none) (ho : objOf S v = some o) (p : ByteArray × Bool) : valR S (d + 1) v p = rowR (valR S d) o p := by
 unfold valR
 rw [hp, ho]
section
variable {code : Nat → Option XFun} {ext : Calls'}
structure RefCode (code : Nat → Option XFun) : Prop where
 c98 : code 98 = some x98S
 c99 : code 99 = some x99
 c100 : code 100 = some x100
 c501 : code 501 = some x501
 c502 : code 502 = some x502
 c504 : code 504 = some x504
theorem zo4 (c : RefCode code) {sv : IV} {S : List Obj} (hr : Reads tObj sv S) (hS : StoreOK S) : ∀ (d : Nat), d ≤ 9 → ∀ (v : Val) (b : ByteArray) (l : Bool), tVal.wf v → 0 < b.size → b.size ≤ 4096 →
  ∃ two, callW code ext 100 [.optr 0 0, .agg [.imm (.val (.int .u8 v.k)), int64 v.n], int64 (9 - d)] (rOne sv b l) = some (.tup [], rOut two sv (valR S d v (b, l)))
 | d, hd9, v, b, l, hv, hb, hbB => by
  have hdd : decide ((8 : Int) < 9 - d) = (d == 0) := by
   cases d with
   | zero => rfl
   | succ d => simp; omega
  have hfn := fun o ho => (hS.wf o ho).2.2.2
  cases hp : pieceOf S (d == 0) v with
  | some x =>
   have hx := zld hv hS.wf hS.s hp
   have he : valR S d v (b, l) = putR (b, l) x := by unfold valR; rw [hp]
   rw [he]
   have hw := zmc (ext := ext) c.c98 sv b x l hb hbB (by omega)
   generalize putR (b, l) x = p at hw ⊢
   obtain ⟨b2, l2⟩ := p
   cases l2 with
   | true => exact ⟨false, zpa c.c502 c.c501 c.c100 hr v hv (9 - d) b b2 l true x (by rw [hdd]; exact hp) hw hfn (by omega)⟩
   | false => exact ⟨true, zpb c.c502 c.c501 c.c100 hr v hv (9 - d) b b2 l false x (by rw [hdd]; exact hp) hw hfn (by omega)⟩
  | none =>
   obtain ⟨hd0, k0, k1, k2, k7, k3, k6, o, ho⟩ := zlc hp
   obtain ⟨hm, _⟩ := zjs ho
   cases d with
   | zero => cases hd0
   | succ d =>
    rw [zsj hp ho]
    have hl := hS.l o hm
    have hI : ItemR code ext sv ((9 - (d + 1 : Nat) : Int) + 1) (valR S d) o.l.xs := by
     refine ⟨fun w hw b l h0 h1 => ?_, fun w _ p h => zsi (P := fun p => 0 < p.1.size) S (fun _ _ h => zl5 h) d w p h, fun w _ p h => zsi (P := fun p => p.1.size ≤ 4096) S (fun _ _ h => zl7 h) d w p h⟩
     rw [show (9 - ((d + 1 : Nat) : Int) + 1) = 9 - d by omega]
     exact zo4 c hr hS d (by omega) w b l (o.l.ok.1 w hw) h0 h1
    have hrow : ∃ two, callW code ext 99 [.optr 0 0, .agg [.imm (.val (.int .u8 o.k)), strV o.s, .imm o.l.iv, int64 o.room, int64 o.fn], int64 (9 - (d + 1 : Nat))] (rOne sv b l) = some (.tup [], rOut two sv (rowR (valR S d) o (b, l))) := by
     by_cases hk5 : o.k = 5
     ·exact zoc c.c98 c.c99 (by omega) hI (by omega) b l hb hbB hk5
     ·exact zod c.c98 c.c99 (by omega) hI (by omega) b l hb hbB hk5
    obtain ⟨two, hrow⟩ := hrow
    refine ⟨two, ?_⟩
    generalize rowR (valR S d) o (b, l) = p at hrow ⊢
    obtain ⟨b2, l2⟩ := p
    cases two with
    | true => exact zo7 c.c502 c.c100 hr v (9 - (d + 1 : Nat)) b b2 l l2 (by omega) ⟨k0, k1, k2, k7, k3, k6⟩ ho hrow
    | false => exact zo6 c.c502 c.c100 hr v (9 - (d + 1 : Nat)) b b2 l l2 (by omega) ⟨k0, k1, k2, k7, k3, k6⟩ ho hrow
theorem zn2 {f : Val → ByteArray × Bool → ByteArray × Bool} {o : Obj} (hf : ∀ v ∈ o.l.xs, ∀ p : ByteArray × Bool, 0 < p.1.size → 0 < (f v p).1.size) : 0 < (rowR f o (.empty, false)).1.size := by
 unfold rowR
 dsimp only
 have h0 : 0 < (putR (.empty, false) (if decide (o.k = 5) = true then openM else openL)).1.size := by split <;> decide
 have := zg6 (P := fun p => 0 < p.1.size) (m := decide (o.k = 5)) (fun _ _ h => zl5 h) o.l.xs 0 _ hf h0
 refine zl5 ?_
 split
 ·exact zl5 this
 ·exact this
theorem zo3 (c : RefCode code) {sv : IV} {S : List Obj} (hr : Reads tObj sv S) (hS : StoreOK S) (v : Val) (hv : tVal.wf v) :
  callW code ext 100 [.optr 0 0, .agg [.imm (.val (.int .u8 v.k)), int64 v.n], int64 0] (rNil sv false) = some (.tup [], if (valR S 9 v (.empty, false)).1.size = 0 then rNil sv (valR S 9 v (.empty, false)).2 else rOne sv (valR S 9 v (.empty, false)).1 (valR S 9 v (.empty, false)).2) := by
 have hfn := fun o ho => (hS.wf o ho).2.2.2
 cases hp : pieceOf S (9 == 0) v with
 | some x =>
  have hx := zld hv hS.wf hS.s hp
  have he : valR S 9 v (.empty, false) = if 4096 < x.size then (.empty, true) else (x, false) := by
   unfold valR; rw [hp]; simp [putR]
  have hw := zmb (ext := ext) c.c98 sv x (by omega)
  rw [he]
  by_cases h4 : 4096 < x.size
  ·rw [if_neg (by omega), if_pos h4] at hw
   rw [if_pos h4]
   exact zo8 c.c502 c.c501 c.c100 hr v hv 0 true x hp hw hfn (by omega)
  ·rw [if_neg h4]
   by_cases h0 : x.size = 0
   ·rw [if_pos h0] at hw
    rw [if_pos h0]
    exact zo8 c.c502 c.c501 c.c100 hr v hv 0 false x hp hw hfn (by omega)
   ·rw [if_neg h0, if_neg h4] at hw
    rw [if_neg h0]
    exact zo9 c.c502 c.c501 c.c100 hr v hv 0 x false x hp hw hfn (by omega)
 | none =>
  obtain ⟨hd0, k0, k1, k2, k7, k3, k6, o, ho⟩ := zlc hp
  obtain ⟨hm, _⟩ := zjs ho
  rw [zsj (d := 8) hp ho]
  have hpos : ∀ w ∈ o.l.xs, ∀ p : ByteArray × Bool, 0 < p.1.size → 0 < (valR S 8 w p).1.size := fun w _ p h => zsi (P := fun p => 0 < p.1.size) S (fun _ _ h => zl5 h) 8 w p h
  rw [if_neg (by have := zn2 hpos; omega)]
  have hl := hS.l o hm
  have hI : ItemR code ext sv ((0 : Int) + 1) (valR S 8) o.l.xs := by
   refine ⟨fun w hw b l h0 h1 => ?_, hpos, fun w _ p h => zsi (P := fun p => p.1.size ≤ 4096) S (fun _ _ h => zl7 h) 8 w p h⟩
   exact zo4 c hr hS 8 (by omega) w b l (o.l.ok.1 w hw) h0 h1
  refine zo5 c.c502 c.c100 hr v 0 _ _ (by omega) ⟨k0, k1, k2, k7, k3, k6⟩ ho ?_
  by_cases hk5 : o.k = 5
  ·exact zoa c.c98 c.c99 (by omega) hI (by omega) hk5
  ·exact zob c.c98 c.c99 (by omega) hI (by omega) hk5
def textR (S : List Obj) (v : Val) : ByteArray × Bool := if (valR S 9 v (.empty, false)).2 = true then (.empty, false) else ((valR S 9 v (.empty, false)).1, true)
theorem zm0 (c : RefCode code) {sv : IV} {S : List Obj} (hr : Reads tObj sv S) (hS : StoreOK S) (v : Val) (hv : tVal.wf v) :
  ∃ m, callW code ext 504 [.imm sv, .agg [.imm (.val (.int .u8 v.k)), int64 v.n]] [] = some (.tup [strV (textR S v).1, avb (textR S v).2], m) := by
 have hT := zo3 (ext := ext) c hr hS v hv
 refine mem_of ?_
 unfold textR
 rw [zbr code ext c.c504]
 generalize valR S 9 v (.empty, false) = p at hT ⊢
 obtain ⟨t, l⟩ := p
 dsimp only at hT ⊢
 by_cases h0 : t.size = 0
 ·rw [if_pos h0] at hT
  have he := zdz h0
  subst he
  cases l with
  | true =>
   simp only [rNil, if_true] at hT ⊢
   simp -implicitDefEqProofs [x504, hT]
  | false =>
   simp only [rNil, Bool.false_eq_true, if_false] at hT ⊢
   have hs : ∀ m, strOfV m nilS = some .empty := fun m => rfl
   simp -implicitDefEqProofs [x504, hT, hs]
 ·rw [if_neg h0] at hT
  have hs : ∀ x y : AObj, strOfV [x, y, .text (rowOfS t)] (.osl 2 0 1 t.size none) = some t := by
   intro x y
   have hc : cut (rowOfS t) 0 t.size = some (rowOfS t) := zcv _ (zn4 t)
   have hu : u8s (rowOfS t) = some (t.data.toList.map fun c => (c.toNat : Int)) := zsa _
   simp only [strOfV, elems, List.getElem?_cons_succ, List.getElem?_cons_zero, Nat.mul_one, hc, Option.map_some, hu, zbm]
  cases l with
  | true =>
   simp only [rNil, rOne, if_true] at hT ⊢
   simp -implicitDefEqProofs [x504, hT]
  | false =>
   simp only [rNil, rOne, Bool.false_eq_true, if_false] at hT ⊢
   simp -implicitDefEqProofs [x504, hT, hs]
end
end Go.EX


set_option linter.unusedVariables false
set_option linter.unusedSimpArgs false
namespace Go.EX
def Agree2 (c : ByteArray) (p : ByteArray × Bool) : Prop := (p.2 = false ∧ p.1 = c ∧ c.size ≤ 4096) ∨ (p.2 = true ∧ 4096 < c.size)
theorem zam {c : ByteArray} {p : ByteArray × Bool} (h : Agree2 c p) (x : ByteArray) : Agree2 (c ++ x) (putR p x) := by
 rcases h with ⟨h1, h2, h3⟩ | ⟨h1, h2⟩
 ·subst h2
  unfold putR
  by_cases h4 : 4096 < p.1.size + x.size
  ·rw [if_pos (.inr h4)]
   right
   refine ⟨rfl, ?_⟩
   rw [zqd]; exact h4
  ·rw [if_neg (by simp [h1]; omega)]
   left
   refine ⟨rfl, rfl, ?_⟩
   rw [zqd]; omega
 ·unfold putR
  rw [if_pos (.inl h1)]
  right
  refine ⟨rfl, ?_⟩
  rw [zqd]; omega
theorem zak {f : Val → ByteArray → ByteArray} {g : Val → ByteArray × Bool → ByteArray × Bool} {m : Bool} : ∀ (xs : List Val) (i : Nat) (c : ByteArray) (p : ByteArray × Bool), (∀ v ∈ xs, ∀ c p, Agree2 c p → Agree2 (f v c) (g v p)) → Agree2 c p →
  Agree2 (itemsV f m xs i c).1 (itemsR g m xs i p) ∧ ((itemsV f m xs i c).2 = true → 4096 < (itemsV f m xs i c).1.size)
 | [], i, c, p, _, h => ⟨h, fun h => by cases h⟩
 | v :: r, i, c, p, hf, h => by
  unfold itemsV itemsR
  by_cases h4 : 4096 < c.size
  ·rw [if_pos h4]
   have hp : p.2 = true := by
    rcases h with ⟨_, _, h3⟩ | ⟨h1, _⟩
    ·omega
    ·exact h1
   rw [if_pos hp]
   exact ⟨h, fun _ => h4⟩
  ·rw [if_neg h4]
   have hp : ¬ p.2 = true := by
    rcases h with ⟨h1, _, _⟩ | ⟨_, h2⟩
    ·simp [h1]
    ·omega
   rw [if_neg hp]
   refine zak r (i + 1) _ _ (fun w hw => hf w (List.mem_cons_of_mem _ hw)) (hf v (List.mem_cons_self ..) _ _ ?_)
   by_cases h5 : m = true ∧ i % 2 = 1
   ·rw [if_pos h5, if_pos h5]; exact zam h _
   ·rw [if_neg h5, if_neg h5]
    split
    ·exact zam h _
    ·exact h
theorem zal {c c' : ByteArray} {p : ByteArray × Bool} (h : Agree2 c p) (h4 : 4096 < c.size) (x : ByteArray) : Agree2 c (putR p x) := by
 rcases h with ⟨_, _, h3⟩ | ⟨h1, h2⟩
 ·omega
 ·unfold putR
  rw [if_pos (.inl h1)]
  exact .inr ⟨rfl, h2⟩
theorem zan {f : Val → ByteArray → ByteArray} {g : Val → ByteArray × Bool → ByteArray × Bool} {o : Obj} (hf : ∀ v ∈ o.l.xs, ∀ c p, Agree2 c p → Agree2 (f v c) (g v p)) {c : ByteArray} {p : ByteArray × Bool} (h : Agree2 c p) : Agree2 (rowV f o c) (rowR g o p) := by
 unfold rowV rowR
 dsimp only
 obtain ⟨h1, h2⟩ := zak (m := decide (o.k = 5)) o.l.xs 0 _ _ hf (zam h (if decide (o.k = 5) = true then openM else openL))
 generalize itemsV f (decide (o.k = 5)) o.l.xs 0 (c ++ if decide (o.k = 5) = true then openM else openL) = q at *
 generalize itemsR g (decide (o.k = 5)) o.l.xs 0 (putR p (if decide (o.k = 5) = true then openM else openL)) = r at *
 by_cases hq : q.2 = true
 ·rw [if_pos hq]
  have h4 := h2 hq
  refine zal (c' := c) ?_ h4 _
  split
  ·exact zal (c' := c) h1 h4 _
  ·exact h1
 ·rw [if_neg hq]
  refine zam ?_ _
  split
  ·exact zam h1 _
  ·exact h1
theorem zao (S : List Obj) : ∀ (d : Nat) (v : Val) (c : ByteArray) (p : ByteArray × Bool), Agree2 c p → Agree2 (tellV S d v c) (valR S d v p)
 | 0, v, c, p, h => by
  unfold tellV valR
  cases hp : pieceOf S (0 == 0) v with
  | some x => exact zam h _
  | none => exact h
 | d + 1, v, c, p, h => by
  unfold tellV valR
  cases hp : pieceOf S (d + 1 == 0) v with
  | some x => exact zam h _
  | none =>
   cases ho : objOf S v with
   | none => exact h
   | some o => exact zan (fun w _ c p h => zao S d w c p h) h
theorem zrm (S : List Obj) (v : Val) : textOf S v = textR S v := by
 have h := zao S 9 v .empty (.empty, false) (.inl ⟨rfl, rfl, by decide⟩)
 unfold textOf textR
 rcases h with ⟨h1, h2, h3⟩ | ⟨h1, h2⟩
 ·rw [if_neg (by omega), if_neg (by simp [h1]), h2]
 ·rw [if_pos h2, if_pos h1]
end Go.EX


set_option linter.unusedVariables false
set_option linter.unusedSimpArgs false
namespace Go.EX
structure Alike (T B : List Obj) : Prop where
 len : B.length = T.length
 like : ∀ (i : Nat) (a b : Obj), T[i]? = some a → B[i]? = some b → LikeObj a b
 wf : ∀ o ∈ B, tObj.wf o
theorem zcj (o : Obj) : LikeObj o (cloneObj o) := by
 refine ⟨rfl, rfl, ?_, rfl, rfl⟩
 unfold cloneObj cloneL
 dsimp only
 split <;> rfl
theorem LikeObj.trans {a b c : Obj} (h : LikeObj a b) (g : LikeObj b c) : LikeObj a c :=
 ⟨h.1.trans g.1, h.2.1.trans g.2.1, h.2.2.1.trans g.2.2.1, h.2.2.2.1.trans g.2.2.2.1, h.2.2.2.2.trans g.2.2.2.2⟩
theorem zar {T : List Obj} (hw : ∀ o ∈ T, tObj.wf o) : Alike T T :=
 ⟨rfl, fun i a b ha hb => by rw [ha] at hb; cases hb; exact ⟨rfl, rfl, rfl, rfl, rfl⟩, hw⟩
theorem zap {T B : List Obj} (h : Alike T B) : Alike T (B.map cloneObj) := by
 refine ⟨by rw [List.length_map]; exact h.len, fun i a b ha hb => ?_, fun o ho => ?_⟩
 ·rw [List.getElem?_map, Option.map_eq_some_iff] at hb
  obtain ⟨p, hp, rfl⟩ := hb
  exact (h.like i a p ha hp).trans (zcj p)
 ·obtain ⟨p, hp, rfl⟩ := List.mem_map.1 ho
  exact h.wf p hp
theorem zat {T B : List Obj} (h : Alike T B) {x : Obj} (hx : tObj.wf x) : Alike (T ++ [x]) (B ++ [x]) := by
 refine ⟨by simp [h.len], fun i a b ha hb => ?_, fun o ho => ?_⟩
 ·by_cases hi : i < T.length
  ·rw [List.getElem?_append_left hi] at ha
   rw [List.getElem?_append_left (by rw [h.len]; exact hi)] at hb
   exact h.like i a b ha hb
  ·rw [List.getElem?_append_right (by omega)] at ha
   rw [List.getElem?_append_right (by rw [h.len]; omega), h.len] at hb
   rw [ha] at hb
   cases hb
   exact ⟨rfl, rfl, rfl, rfl, rfl⟩
 ·rcases List.mem_append.1 ho with ho | ho
  ·exact h.wf o ho
  ·rw [List.mem_singleton.1 ho]; exact hx
theorem zaq {T B : List Obj} (h : Alike T B) (i : Nat) : (T[i]? = none ∧ B[i]? = none) ∨ ∃ a b, T[i]? = some a ∧ B[i]? = some b ∧ LikeObj a b := by
 by_cases hi : i < T.length
 ·have h1 := List.getElem?_eq_getElem hi
  have h2 := List.getElem?_eq_getElem (l := B) (i := i) (by rw [h.len]; exact hi)
  exact .inr ⟨_, _, h1, h2, h.like i _ _ h1 h2⟩
 ·exact .inl ⟨List.getElem?_eq_none (by omega), List.getElem?_eq_none (by rw [h.len]; omega)⟩
theorem zh4 {T B : List Obj} (h : Alike T B) (v : Val) : leadsOf B v = leadsOf T v := by
 unfold leadsOf
 rw [h.len]
 rcases zaq h (v.n - 1).toNat with ⟨h1, h2⟩ | ⟨a, b, h1, h2, h3⟩
 ·rw [h1, h2]
 ·rw [h1, h2]
  simp only [h3.1]
theorem zjr {T B : List Obj} (h : Alike T B) (v : Val) : (objOf T v = none ∧ objOf B v = none) ∨ ∃ a b, objOf T v = some a ∧ objOf B v = some b ∧ LikeObj a b := by
 unfold objOf
 rw [zh4 h]
 cases leadsOf T v with
 | none => exact .inl ⟨rfl, rfl⟩
 | some k =>
  simp only [Option.bind_some]
  exact zaq h k
theorem zlb {T B : List Obj} (h : Alike T B) (deep : Bool) (v : Val) : pieceOf B deep v = pieceOf T deep v := by
 unfold pieceOf
 rcases zjr h v with ⟨h1, h2⟩ | ⟨a, b, h1, h2, h3⟩
 ·rw [h1, h2]
 ·rw [h1, h2]
  simp only [h3.2.1, h3.2.2.2.2]
theorem zrd {T B : List Obj} (h : Alike T B) : ∀ (d : Nat) (v : Val) (c : ByteArray), tellV B d v c = tellV T d v c
 | d, v, c => by
  unfold tellV
  rw [zlb h]
  cases pieceOf T (d == 0) v with
  | some x => rfl
  | none =>
   cases d with
   | zero => rfl
   | succ d =>
    rcases zjr h v with ⟨h1, h2⟩ | ⟨a, b, h1, h2, h3⟩
    ·rw [h1, h2]
    ·rw [h1, h2]
     have hf : tellV B d = tellV T d := by
      funext w c
      exact zrd h d w c
     show rowV (tellV B d) b c = rowV (tellV T d) a c
     rw [hf]
     unfold rowV
     rw [h3.1, h3.2.2.1]
theorem zri {T B : List Obj} (h : Alike T B) (v : Val) : textOf B v = textOf T v := by
 unfold textOf
 rw [zrd h]
theorem zrj (S : List Obj) (v : Val) : (textOf S v).1.size ≤ 4096 := by
 unfold textOf
 split
 ·exact Nat.zero_le _
 ·show (tellV S 9 v .empty).size ≤ 4096
  omega
theorem zic {T B : List Obj} (h : Alike T B) (v : Val) : ∃ k n t, lenP B v = doV k n t false ∧ lenR T v = didV k n t 0 := by
 unfold lenP lenR
 rcases zjr h v with ⟨h1, h2⟩ | ⟨a, b, h1, h2, h3⟩
 ·rw [h1, h2]; exact ⟨_, _, _, rfl, rfl⟩
 ·rw [h1, h2]
  dsimp only
  rw [← h3.2.1, ← h3.2.2.1]
  split
  ·exact ⟨_, _, _, rfl, rfl⟩
  split
  ·exact ⟨_, _, _, rfl, rfl⟩
  split <;> exact ⟨_, _, _, rfl, rfl⟩
theorem zse : ∀ (S : List Obj), (unm (List.replicate S.length false) S : Int) = sumL S + S.length
 | [] => by simp [unm, sumL]
 | o :: S => by
  have := zse S
  simp only [List.length_cons, List.replicate_succ, unm, sumL]
  omega
theorem zqc : ∀ (S : List Obj) (n : Int), (∀ o ∈ S, tObj.wf o) → 0 ≤ n → sizeGo n S ≤ 50000 → n + sumL S ≤ 50000 ∧ n + S.length ≤ 50000 ∧ ∀ o ∈ S, objSize o ≤ 50000
 | [], n, _, h0, hz => ⟨by unfold sizeGo at hz; simpa [sumL] using hz, by unfold sizeGo at hz; simpa using hz, fun o ho => by cases ho⟩
 | o :: r, n, hw, h0, hz => by
  unfold sizeGo at hz
  have hb := zjt o (hw o (List.mem_cons_self ..))
  have hr := fun x hx => hw x (List.mem_cons_of_mem o hx)
  split at hz
  ·obtain ⟨h1, h2, h3⟩ := zqc r (n + objSize o) hr (by omega) hz
   have hlow := (zqa r (n + objSize o) hr (by omega) (by omega)).1
   have ho : objSize o ≤ 50000 := by omega
   have hl : (1 : Int) + o.l.xs.length ≤ objSize o := by
    unfold objSize at ho ⊢
    split at ho
    ·rename_i h; rw [if_pos h]; omega
    ·omega
   refine ⟨by rw [sumL]; omega, by rw [List.length_cons]; omega, fun x hx => ?_⟩
   rcases List.mem_cons.1 hx with rfl | hx
   ·exact ho
   ·exact h3 x hx
  ·omega
theorem zqb {S : List Obj} (hw : ∀ o ∈ S, tObj.wf o) (h : sizeGo S.length S ≤ 50000) : sumL S ≤ 50000 ∧ S.length ≤ 50000 ∧ (∀ o ∈ S, o.s.size ≤ 50000) ∧ ∀ o ∈ S, o.l.xs.length ≤ 50000 := by
 obtain ⟨h1, h2, h3⟩ := zqc S S.length hw (by omega) h
 refine ⟨by omega, by omega, fun o ho => ?_, fun o ho => ?_⟩ <;>
 ·have := h3 o ho
  unfold objSize at this
  split at this <;> omega
end Go.EX

