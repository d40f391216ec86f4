import Derived.Test.YtedddogbgdbpmaaDoorK13
import Derived.Test.YtedddogbgdbpmaaDoorK11
import Derived.Test.YtedddogbgdbpmaaDoorK8
import Derived.Test.YtedddogbgdbpmaaDoorK4
set_option maxHeartbeats 1000000
set_option linter.unusedVariables false
set_option linter.unusedSimpArgs false
namespace Go.EX
section
variable {code : Nat → Option XFun} {ext : Calls'}
theorem zoi (c : PutFns code) {T : List Obj} (hn : T.length ≤ 100000000) {q : Nat} (hq : q < T.length) {v k x : Val} (v4 : v.k = 4) (k2 : k.k = 2) (hv : (q : Int) = v.n - 1) (xs : List Val) (hl : xs.length < 65536) (hk : k.n = xs.length) {o : Obj} (ho : T[q]? = some o) (hr0 : (xs.length : Int) ≤ o.room) (hr1 : o.room ≤ 262144) :
  callW code ext 215 [.optr 0 0, valA v, valA k, valA x] (rM T q (tVal.row xs) xs.length (some xs.length)) = some (didP 0 0 .empty, rV (roomAt (tObj.row T) q (growR 1 xs.length o.room)) T.length q (tVal.row xs) (tVal.row (xs ++ [x])) (xs.length + 1) none (growU 1 xs.length o.room)) := by
 have p1 := zpu
 have hrl : (tObj.row T).length = T.length * 5 := zqn tObj T
 have hcell : (tObj.row T)[q * 5 + 3]? = some (.val (.int .i64 o.room)) := zdd (zf4 (t := tObj) ho) 3 (by decide)
 have hR1 : q * 5 + 2 + 1 ≤ (tObj.row T).length := by omega
 have hR2 : q * 5 + 3 + 1 ≤ (tObj.row T).length := by omega
 have hrf : ∀ v : AV, AV.refs.refsL (richRow (tObj.row T) (q * 5 + 2) v) = v.refs := fun v => zpe (by omega)
 have hgt : ∀ v, (richRow (tObj.row T) (q * 5 + 2) v)[q * 5 + 2]? = some v := fun v => zp1 (by omega)
 have hgr : ∀ v, (richRow (tObj.row T) (q * 5 + 2) v)[q * 5 + 3]? = some (.imm (.val (.int .i64 o.room))) := fun v => zp2 hcell (by omega)
 have hll : ∀ v, (richRow (tObj.row T) (q * 5 + 2) v).length = (tObj.row T).length := fun v => zp4 (tObj.row T) (q * 5 + 2) v
 have hrr : ∀ v y, setAll (richRow (tObj.row T) (q * 5 + 2) v) (q * 5 + 3) [.imm y] = richRow ((tObj.row T).set (q * 5 + 3) y) (q * 5 + 2) v := fun v y => zp9 (by omega)
 have hrs : ∀ v w, setAll (richRow (tObj.row T) (q * 5 + 2) v) (q * 5 + 2) [w] = richRow (tObj.row T) (q * 5 + 2) w := fun v w => zp6 _ _ v w
 have hll2 : ∀ v y, (richRow ((tObj.row T).set (q * 5 + 3) y) (q * 5 + 2) v).length = (tObj.row T).length := fun v y => by rw [zp4, List.length_set]
 have hll3 : ∀ y, ((tObj.row T).set (q * 5 + 3) y).length = (tObj.row T).length := fun y => List.length_set ..
 have hrf2 : ∀ v y, AV.refs.refsL (richRow ((tObj.row T).set (q * 5 + 3) y) (q * 5 + 2) v) = v.refs := fun v y => zpe (by rw [List.length_set]; omega)
 have hgt2 : ∀ v y, (richRow ((tObj.row T).set (q * 5 + 3) y) (q * 5 + 2) v)[q * 5 + 2]? = some v := fun v y => zp1 (by rw [List.length_set]; omega)
 have hrs2 : ∀ v w y, setAll (richRow ((tObj.row T).set (q * 5 + 3) y) (q * 5 + 2) v) (q * 5 + 2) [w] = richRow ((tObj.row T).set (q * 5 + 3) y) (q * 5 + 2) w := fun v w y => zp6 _ _ v w
 have hmk : ∀ w, setAll ((tObj.row T).map AV.imm) (q * 5 + 2) [w] = richRow (tObj.row T) (q * 5 + 2) w := fun w => zp5 _ _ w
 have hmk2 : ∀ w y, setAll (((tObj.row T).map AV.imm).set (q * 5 + 3) (.imm y)) (q * 5 + 2) [w] = richRow ((tObj.row T).set (q * 5 + 3) y) (q * 5 + 2) w := fun w y => by rw [← List.map_set]; exact zp5 _ _ w
 have f1 := zig (ext := ext) c.c581 v k
 have f2 := zqe (ext := ext) c.c213 hq (tVal.row xs) xs.length (some xs.length) v.k v.n hv hq (by omega)
 have e1 : ¬ (xs.length : Int) < 0 := by omega
 have hrl2 : (tVal.row xs).length = xs.length * 2 := zqn tVal xs
 have hcut := zdb _ hrl2
 have e4 : ¬ (65536 : Int) ≤ xs.length := by omega
 have w2 : IntKind.wrap .i64 ((xs.length : Int) + 1) = (xs.length : Int) + 1 := wrapI64 (by omega) (by omega)
 have hle1 : (xs.length + 1) * 16 ≤ 140737488355328 := by omega
 have hno1 : ¬ xs.length + 1 ≤ xs.length := by omega
 have hap1 : tVal.row xs ++ [.val (.int .u8 x.k), .val (.int .i64 x.n)] = tVal.row (xs ++ [x]) := by simp [Ty.row, tVal]
 have w1 : IntKind.wrap .i64 (65536 : Int) = 65536 := rfl
 have w7 : IntKind.wrap .i64 (65536 : Int) = 65536 := rfl
 have w6 : IntKind.wrap .i64 (4 : Int) = 4 := rfl
 rw [v4, k2] at f1
 rw [v4] at f2
 simp only [decide_true, decide_false, Bool.or_true, Bool.true_or, Bool.true_and, Bool.and_true] at f1
 unfold valA
 rw [v4, k2]
 rw [zbs code ext c.c215]
 by_cases hroom : o.room < ((xs.length : Nat) : Int) + 1
 ·obtain ⟨room, hrm⟩ : ∃ room : Int, room = if (4 * 1 : Int) < 2 * o.room then 2 * o.room else 4 * 1 := ⟨_, rfl⟩
  have hg1 : growR 1 xs.length o.room = room := by unfold growR; rw [if_pos hroom, hrm]
  have hg2 : growU 1 xs.length o.room = 1 + 2 * room := by unfold growU; rw [if_pos hroom, hg1]
  have hrb : 0 ≤ room ∧ room ≤ 262144 := by rw [hrm]; split <;> omega
  have hrm : room = if (4 : Int) < 2 * o.room then 2 * o.room else 4 := hrm
  have w3 : IntKind.wrap .i64 (2 * o.room) = 2 * o.room := wrapI64 (by omega) (by omega)
  have w4 : IntKind.wrap .i64 (2 * room) = 2 * room := wrapI64 (by omega) (by omega)
  have w5 : IntKind.wrap .i64 (1 + 2 * room) = 1 + 2 * room := wrapI64 (by omega) (by omega)
  have f3 := zqv (ext := ext) c.c218 (R := tObj.row T) (N := T.length) (q := q) (by omega) (tVal.row xs) xs.length (some xs.length) (w := 1 + 2 * room) (by omega) (by omega)
  have hroom' : o.room < (xs.length : Int) + 1 := by omega
  clear hcell
  rw [hg1, hg2]
  unfold roomAt
  try unfold rM at *
  try unfold rU at *
  try unfold rV at *
  try unfold rA at *
  rw [hk] at *
  generalize tVal.row (xs ++ [x]) = W2 at *
  generalize tVal.row xs = W at *
  generalize tObj.row T = R at *
  generalize T.length = N at *
  generalize xs.length = n at *
  generalize o.room = rm at *
  simp -implicitDefEqProofs [x215, f1, f2, exLook, exPeek, p1, w1, w2, w6, w7, exAppendX, exAppend, elems, hll, hll2, hll3, hrs, hrs2, hrr, hgt, hgt2, hgr, hrf, hrf2, hR1, hR2, hmk, hmk2, e1, e4, hcut, hap1, hle1, hno1, f3, w3, ← hrm, w4, w5, hroom']
 ·have hg1 : growR 1 xs.length o.room = o.room := by unfold growR; rw [if_neg hroom]
  have hg2 : growU 1 xs.length o.room = 0 := by unfold growU; rw [if_neg hroom]
  have hroom' : ¬ o.room < (xs.length : Int) + 1 := by omega
  rw [hg1, hg2, zqf hcell]
  clear hcell
  try unfold rM at *
  try unfold rU at *
  try unfold rV at *
  try unfold rA at *
  rw [hk] at *
  generalize tVal.row (xs ++ [x]) = W2 at *
  generalize tVal.row xs = W at *
  generalize tObj.row T = R at *
  generalize T.length = N at *
  generalize xs.length = n at *
  generalize o.room = rm at *
  simp -implicitDefEqProofs [x215, f1, f2, exLook, exPeek, p1, w1, w2, w6, w7, exAppendX, exAppend, elems, hll, hll2, hll3, hrs, hrs2, hrr, hgt, hgt2, hgr, hrf, hrf2, hR1, hR2, hmk, hmk2, e1, e4, hcut, hap1, hle1, hno1, hroom']
theorem zol (c : PutFns code) {T : List Obj} (hn : T.length ≤ 100000000) {q : Nat} (hq : q < T.length) {v k x : Val} (v4 : v.k = 4) (k2 : k.k = 2) (hv : (q : Int) = v.n - 1) (hk : k.n = 0) {o : Obj} (ho : T[q]? = some o) (hnil : o.l.iv = .val (.slice none 0 0)) (hr0 : 0 ≤ o.room) (hr1 : o.room ≤ 262144) :
  callW code ext 215 [.optr 0 0, valA v, valA k, valA x] (sM false T) = some (didP 0 0 .empty, rU (roomAt (tObj.row T) q (growR 1 0 o.room)) T.length q (tVal.row [x]) 1 none (growU 1 0 o.room)) := by
 have p1 := zpu
 have hrl : (tObj.row T).length = T.length * 5 := zqn tObj T
 have hcell : (tObj.row T)[q * 5 + 3]? = some (.val (.int .i64 o.room)) := zdd (zf4 (t := tObj) ho) 3 (by decide)
 have hR1 : q * 5 + 2 + 1 ≤ (tObj.row T).length := by omega
 have hR2 : q * 5 + 3 + 1 ≤ (tObj.row T).length := by omega
 have hrf : ∀ v : AV, AV.refs.refsL (richRow (tObj.row T) (q * 5 + 2) v) = v.refs := fun v => zpe (by omega)
 have hgt : ∀ v, (richRow (tObj.row T) (q * 5 + 2) v)[q * 5 + 2]? = some v := fun v => zp1 (by omega)
 have hgr : ∀ v, (richRow (tObj.row T) (q * 5 + 2) v)[q * 5 + 3]? = some (.imm (.val (.int .i64 o.room))) := fun v => zp2 hcell (by omega)
 have hll : ∀ v, (richRow (tObj.row T) (q * 5 + 2) v).length = (tObj.row T).length := fun v => zp4 (tObj.row T) (q * 5 + 2) v
 have hrr : ∀ v y, setAll (richRow (tObj.row T) (q * 5 + 2) v) (q * 5 + 3) [.imm y] = richRow ((tObj.row T).set (q * 5 + 3) y) (q * 5 + 2) v := fun v y => zp9 (by omega)
 have hrs : ∀ v w, setAll (richRow (tObj.row T) (q * 5 + 2) v) (q * 5 + 2) [w] = richRow (tObj.row T) (q * 5 + 2) w := fun v w => zp6 _ _ v w
 have hll2 : ∀ v y, (richRow ((tObj.row T).set (q * 5 + 3) y) (q * 5 + 2) v).length = (tObj.row T).length := fun v y => by rw [zp4, List.length_set]
 have hll3 : ∀ y, ((tObj.row T).set (q * 5 + 3) y).length = (tObj.row T).length := fun y => List.length_set ..
 have hrf2 : ∀ v y, AV.refs.refsL (richRow ((tObj.row T).set (q * 5 + 3) y) (q * 5 + 2) v) = v.refs := fun v y => zpe (by rw [List.length_set]; omega)
 have hgt2 : ∀ v y, (richRow ((tObj.row T).set (q * 5 + 3) y) (q * 5 + 2) v)[q * 5 + 2]? = some v := fun v y => zp1 (by rw [List.length_set]; omega)
 have hrs2 : ∀ v w y, setAll (richRow ((tObj.row T).set (q * 5 + 3) y) (q * 5 + 2) v) (q * 5 + 2) [w] = richRow ((tObj.row T).set (q * 5 + 3) y) (q * 5 + 2) w := fun v w y => zp6 _ _ v w
 have hmk : ∀ w, setAll ((tObj.row T).map AV.imm) (q * 5 + 2) [w] = richRow (tObj.row T) (q * 5 + 2) w := fun w => zp5 _ _ w
 have hmk2 : ∀ w y, setAll (((tObj.row T).map AV.imm).set (q * 5 + 3) (.imm y)) (q * 5 + 2) [w] = richRow ((tObj.row T).set (q * 5 + 3) y) (q * 5 + 2) w := fun w y => by rw [← List.map_set]; exact zp5 _ _ w
 have f1 := zig (ext := ext) c.c581 v k
 have f2 := zlk (ext := ext) c.c213 v.k v.n hv hq (by omega)
 have hcl : (tObj.row T)[q * 5 + 2]? = some (.val (.slice none 0 0)) := by rw [← hnil]; exact zqm ho
 have hsf : ∀ y, setAll (tObj.row T) (q * 5 + 3) [y] = (tObj.row T).set (q * 5 + 3) y := fun y => rfl
 have hcl2 : ∀ y, ((tObj.row T).set (q * 5 + 3) y)[q * 5 + 2]? = some (.val (.slice none 0 0)) := fun y => by rw [List.getElem?_set_ne (by omega)]; exact hcl
 have w2 : IntKind.wrap .i64 (1 : Int) = 1 := rfl
 have hrow : tVal.row [x] = [.val (.int .u8 x.k), .val (.int .i64 x.n)] := rfl
 have w1 : IntKind.wrap .i64 (65536 : Int) = 65536 := rfl
 have w7 : IntKind.wrap .i64 (65536 : Int) = 65536 := rfl
 have w6 : IntKind.wrap .i64 (4 : Int) = 4 := rfl
 rw [v4, k2] at f1
 rw [v4] at f2
 simp only [decide_true, decide_false, Bool.or_true, Bool.true_or, Bool.true_and, Bool.and_true] at f1
 unfold valA
 rw [v4, k2]
 rw [zbs code ext c.c215]
 by_cases hroom : o.room < ((0 : Nat) : Int) + 1
 ·obtain ⟨room, hrm⟩ : ∃ room : Int, room = if (4 * 1 : Int) < 2 * o.room then 2 * o.room else 4 * 1 := ⟨_, rfl⟩
  have hg1 : growR 1 0 o.room = room := by unfold growR; rw [if_pos hroom, hrm]
  have hg2 : growU 1 0 o.room = 1 + 2 * room := by unfold growU; rw [if_pos hroom, hg1]
  have hrb : 0 ≤ room ∧ room ≤ 262144 := by rw [hrm]; split <;> omega
  have hrm : room = if (4 : Int) < 2 * o.room then 2 * o.room else 4 := hrm
  have w3 : IntKind.wrap .i64 (2 * o.room) = 2 * o.room := wrapI64 (by omega) (by omega)
  have w4 : IntKind.wrap .i64 (2 * room) = 2 * room := wrapI64 (by omega) (by omega)
  have w5 : IntKind.wrap .i64 (1 + 2 * room) = 1 + 2 * room := wrapI64 (by omega) (by omega)
  have f3 := zl0 (ext := ext) c.c218 false T (w := 1 + 2 * room) (by omega) (by omega)
  have hroom' : o.room < 1 := by omega
  rw [hg1, hg2]
  unfold roomAt
  try unfold sM at *
  try unfold rU at *
  simp only [Bool.false_eq_true, if_false] at *
  rw [hk] at *
  generalize tObj.row T = R at *
  generalize T.length = N at *
  generalize o.room = rm at *
  simp -implicitDefEqProofs [x215, f1, f2, exLook, exPeek, p1, w1, w2, w6, w7, exAppendX, exAppend, elems, hll, hll2, hll3, hrs, hrs2, hrr, hgt, hgt2, hgr, hrf, hrf2, hR1, hR2, hmk, hmk2, hcl, hcl2, hrow, hcell, hsf, f3, w3, ← hrm, w4, w5, hroom']
 ·have hg1 : growR 1 0 o.room = o.room := by unfold growR; rw [if_neg hroom]
  have hg2 : growU 1 0 o.room = 0 := by unfold growU; rw [if_neg hroom]
  have hroom' : ¬ o.room < 1 := by omega
  rw [hg1, hg2, zqf hcell]
  try unfold sM at *
  try unfold rU at *
  simp only [Bool.false_eq_true, if_false] at *
  rw [hk] at *
  generalize tObj.row T = R at *
  generalize T.length = N at *
  generalize o.room = rm at *
  simp -implicitDefEqProofs [x215, f1, f2, exLook, exPeek, p1, w1, w2, w6, w7, exAppendX, exAppend, elems, hll, hll2, hll3, hrs, hrs2, hrr, hgt, hgt2, hgr, hrf, hrf2, hR1, hR2, hmk, hmk2, hcl, hcl2, hrow, hcell, hsf, hroom']
theorem zoj (c : PutFns code) {T : List Obj} (hn : T.length ≤ 100000000) {q : Nat} (hq : q < T.length) {v k x : Val} (v5 : v.k = 5) (hv : (q : Int) = v.n - 1) (xs : List Val) (hl : xs.length < 131072) (hl2 : xs.length % 2 = 0) {o : Obj} (ho : T[q]? = some o) (hr0 : (xs.length : Int) ≤ o.room) (hr1 : o.room ≤ 262144) (hat : callW code ext 209 [.optr 0 0, .osl 1 0 2 xs.length (some xs.length), valA k] (rA T q (tVal.row xs) xs.length (some xs.length)) = some (int64 (-1), rA T q (tVal.row xs) xs.length (some xs.length))) :
  callW code ext 215 [.optr 0 0, valA v, valA k, valA x] (rM T q (tVal.row xs) xs.length (some xs.length)) = some (didP 0 0 .empty, rV (roomAt (tObj.row T) q (growR 2 xs.length o.room)) T.length q (tVal.row xs) (tVal.row (xs ++ [k, x])) (xs.length + 2) none (growU 2 xs.length o.room)) := by
 have p1 := zpu
 have hrl : (tObj.row T).length = T.length * 5 := zqn tObj T
 have hcell : (tObj.row T)[q * 5 + 3]? = some (.val (.int .i64 o.room)) := zdd (zf4 (t := tObj) ho) 3 (by decide)
 have hR1 : q * 5 + 2 + 1 ≤ (tObj.row T).length := by omega
 have hR2 : q * 5 + 3 + 1 ≤ (tObj.row T).length := by omega
 have hrf : ∀ v : AV, AV.refs.refsL (richRow (tObj.row T) (q * 5 + 2) v) = v.refs := fun v => zpe (by omega)
 have hgt : ∀ v, (richRow (tObj.row T) (q * 5 + 2) v)[q * 5 + 2]? = some v := fun v => zp1 (by omega)
 have hgr : ∀ v, (richRow (tObj.row T) (q * 5 + 2) v)[q * 5 + 3]? = some (.imm (.val (.int .i64 o.room))) := fun v => zp2 hcell (by omega)
 have hll : ∀ v, (richRow (tObj.row T) (q * 5 + 2) v).length = (tObj.row T).length := fun v => zp4 (tObj.row T) (q * 5 + 2) v
 have hrr : ∀ v y, setAll (richRow (tObj.row T) (q * 5 + 2) v) (q * 5 + 3) [.imm y] = richRow ((tObj.row T).set (q * 5 + 3) y) (q * 5 + 2) v := fun v y => zp9 (by omega)
 have hrs : ∀ v w, setAll (richRow (tObj.row T) (q * 5 + 2) v) (q * 5 + 2) [w] = richRow (tObj.row T) (q * 5 + 2) w := fun v w => zp6 _ _ v w
 have hll2 : ∀ v y, (richRow ((tObj.row T).set (q * 5 + 3) y) (q * 5 + 2) v).length = (tObj.row T).length := fun v y => by rw [zp4, List.length_set]
 have hll3 : ∀ y, ((tObj.row T).set (q * 5 + 3) y).length = (tObj.row T).length := fun y => List.length_set ..
 have hrf2 : ∀ v y, AV.refs.refsL (richRow ((tObj.row T).set (q * 5 + 3) y) (q * 5 + 2) v) = v.refs := fun v y => zpe (by rw [List.length_set]; omega)
 have hgt2 : ∀ v y, (richRow ((tObj.row T).set (q * 5 + 3) y) (q * 5 + 2) v)[q * 5 + 2]? = some v := fun v y => zp1 (by rw [List.length_set]; omega)
 have hrs2 : ∀ v w y, setAll (richRow ((tObj.row T).set (q * 5 + 3) y) (q * 5 + 2) v) (q * 5 + 2) [w] = richRow ((tObj.row T).set (q * 5 + 3) y) (q * 5 + 2) w := fun v w y => zp6 _ _ v w
 have hmk : ∀ w, setAll ((tObj.row T).map AV.imm) (q * 5 + 2) [w] = richRow (tObj.row T) (q * 5 + 2) w := fun w => zp5 _ _ w
 have hmk2 : ∀ w y, setAll (((tObj.row T).map AV.imm).set (q * 5 + 3) (.imm y)) (q * 5 + 2) [w] = richRow ((tObj.row T).set (q * 5 + 3) y) (q * 5 + 2) w := fun w y => by rw [← List.map_set]; exact zp5 _ _ w
 have f1 := zig (ext := ext) c.c581 v k
 have f2 := zqe (ext := ext) c.c213 hq (tVal.row xs) xs.length (some xs.length) v.k v.n hv hq (by omega)
 have e1 : ¬ (xs.length : Int) < 0 := by omega
 have hrl2 : (tVal.row xs).length = xs.length * 2 := zqn tVal xs
 have hcut := zdb _ hrl2
 have e4 : ¬ (131072 : Int) ≤ xs.length := by omega
 have w2 : IntKind.wrap .i64 ((xs.length : Int) + 2) = (xs.length : Int) + 2 := wrapI64 (by omega) (by omega)
 have hle1 : (xs.length + 1) * 16 ≤ 140737488355328 := by omega
 have hno1 : ¬ xs.length + 1 ≤ xs.length := by omega
 have hle2 : (xs.length + 2) * 16 ≤ 140737488355328 := by omega
 have hno2 : ¬ xs.length + 2 ≤ xs.length := by omega
 have hap1 : tVal.row xs ++ [.val (.int .u8 k.k), .val (.int .i64 k.n)] = tVal.row (xs ++ [k]) := by simp [Ty.row, tVal]
 have hap2 : tVal.row (xs ++ [k]) ++ [.val (.int .u8 x.k), .val (.int .i64 x.n)] = tVal.row (xs ++ [k, x]) := by simp [Ty.row, tVal]
 have hcut2 : cut (tVal.row (xs ++ [k])) 0 ((xs.length + 1) * 2) = some (tVal.row (xs ++ [k])) := zdb _ (by have := zqn tVal (xs ++ [k]); rw [List.length_append] at this; exact this)
 have hrl3 : (tVal.row (xs ++ [k])).length = (xs.length + 1) * 2 := by have := zqn tVal (xs ++ [k]); rw [List.length_append] at this; exact this
 have w1 : IntKind.wrap .i64 (131072 : Int) = 131072 := rfl
 have w7 : IntKind.wrap .i64 (65536 : Int) = 65536 := rfl
 have w6 : IntKind.wrap .i64 (8 : Int) = 8 := rfl
 rw [v5] at f1 f2
 simp only [decide_true, Bool.true_or] at f1
 unfold valA at *
 rw [v5]
 rw [zbs code ext c.c215]
 by_cases hroom : o.room < ((xs.length : Nat) : Int) + 2
 ·obtain ⟨room, hrm⟩ : ∃ room : Int, room = if (4 * 2 : Int) < 2 * o.room then 2 * o.room else 4 * 2 := ⟨_, rfl⟩
  have hg1 : growR 2 xs.length o.room = room := by unfold growR; rw [if_pos hroom, hrm]
  have hg2 : growU 2 xs.length o.room = 1 + 2 * room := by unfold growU; rw [if_pos hroom, hg1]
  have hrb : 0 ≤ room ∧ room ≤ 262144 := by rw [hrm]; split <;> omega
  have hrm : room = if (8 : Int) < 2 * o.room then 2 * o.room else 8 := hrm
  have w3 : IntKind.wrap .i64 (2 * o.room) = 2 * o.room := wrapI64 (by omega) (by omega)
  have w4 : IntKind.wrap .i64 (2 * room) = 2 * room := wrapI64 (by omega) (by omega)
  have w5 : IntKind.wrap .i64 (1 + 2 * room) = 1 + 2 * room := wrapI64 (by omega) (by omega)
  have f3 := zqv (ext := ext) c.c218 (R := tObj.row T) (N := T.length) (q := q) (by omega) (tVal.row xs) xs.length (some xs.length) (w := 1 + 2 * room) (by omega) (by omega)
  have hroom' : o.room < (xs.length : Int) + 2 := by omega
  clear hcell
  rw [hg1, hg2]
  unfold roomAt
  try unfold rM at *
  try unfold rU at *
  try unfold rV at *
  try unfold rA at *
  generalize tVal.row (xs ++ [k, x]) = W3 at *
  generalize tVal.row (xs ++ [k]) = W2 at *
  generalize tVal.row xs = W at *
  generalize tObj.row T = R at *
  generalize T.length = N at *
  generalize xs.length = n at *
  generalize o.room = rm at *
  simp -implicitDefEqProofs [x215, f1, f2, exLook, exPeek, p1, w1, w2, w6, w7, exAppendX, exAppend, elems, hll, hll2, hll3, hrs, hrs2, hrr, hgt, hgt2, hgr, hrf, hrf2, hR1, hR2, hmk, hmk2, e1, e4, hcut, hap1, hle1, hno1, hap2, hcut2, hle2, hno2, hat, f3, w3, ← hrm, w4, w5, hroom']
 ·have hg1 : growR 2 xs.length o.room = o.room := by unfold growR; rw [if_neg hroom]
  have hg2 : growU 2 xs.length o.room = 0 := by unfold growU; rw [if_neg hroom]
  have hroom' : ¬ o.room < (xs.length : Int) + 2 := by omega
  rw [hg1, hg2, zqf hcell]
  clear hcell
  try unfold rM at *
  try unfold rU at *
  try unfold rV at *
  try unfold rA at *
  generalize tVal.row (xs ++ [k, x]) = W3 at *
  generalize tVal.row (xs ++ [k]) = W2 at *
  generalize tVal.row xs = W at *
  generalize tObj.row T = R at *
  generalize T.length = N at *
  generalize xs.length = n at *
  generalize o.room = rm at *
  simp -implicitDefEqProofs [x215, f1, f2, exLook, exPeek, p1, w1, w2, w6, w7, exAppendX, exAppend, elems, hll, hll2, hll3, hrs, hrs2, hrr, hgt, hgt2, hgr, hrf, hrf2, hR1, hR2, hmk, hmk2, e1, e4, hcut, hap1, hle1, hno1, hap2, hcut2, hle2, hno2, hat, hroom']
theorem zok (c : PutFns code) {T : List Obj} (hn : T.length ≤ 100000000) {q : Nat} (hq : q < T.length) {v k x : Val} (v5 : v.k = 5) (hv : (q : Int) = v.n - 1) {o : Obj} (ho : T[q]? = some o) (hnil : o.l.iv = .val (.slice none 0 0)) (hr0 : 0 ≤ o.room) (hr1 : o.room ≤ 262144) (hat : callW code ext 209 [.optr 0 0, nilS, valA k] (sM false T) = some (int64 (-1), sM false T)) :
  callW code ext 215 [.optr 0 0, valA v, valA k, valA x] (sM false T) = some (didP 0 0 .empty, rU (roomAt (tObj.row T) q (growR 2 0 o.room)) T.length q (tVal.row [k, x]) 2 none (growU 2 0 o.room)) := by
 have p1 := zpu
 have hrl : (tObj.row T).length = T.length * 5 := zqn tObj T
 have hcell : (tObj.row T)[q * 5 + 3]? = some (.val (.int .i64 o.room)) := zdd (zf4 (t := tObj) ho) 3 (by decide)
 have hR1 : q * 5 + 2 + 1 ≤ (tObj.row T).length := by omega
 have hR2 : q * 5 + 3 + 1 ≤ (tObj.row T).length := by omega
 have hrf : ∀ v : AV, AV.refs.refsL (richRow (tObj.row T) (q * 5 + 2) v) = v.refs := fun v => zpe (by omega)
 have hgt : ∀ v, (richRow (tObj.row T) (q * 5 + 2) v)[q * 5 + 2]? = some v := fun v => zp1 (by omega)
 have hgr : ∀ v, (richRow (tObj.row T) (q * 5 + 2) v)[q * 5 + 3]? = some (.imm (.val (.int .i64 o.room))) := fun v => zp2 hcell (by omega)
 have hll : ∀ v, (richRow (tObj.row T) (q * 5 + 2) v).length = (tObj.row T).length := fun v => zp4 (tObj.row T) (q * 5 + 2) v
 have hrr : ∀ v y, setAll (richRow (tObj.row T) (q * 5 + 2) v) (q * 5 + 3) [.imm y] = richRow ((tObj.row T).set (q * 5 + 3) y) (q * 5 + 2) v := fun v y => zp9 (by omega)
 have hrs : ∀ v w, setAll (richRow (tObj.row T) (q * 5 + 2) v) (q * 5 + 2) [w] = richRow (tObj.row T) (q * 5 + 2) w := fun v w => zp6 _ _ v w
 have hll2 : ∀ v y, (richRow ((tObj.row T).set (q * 5 + 3) y) (q * 5 + 2) v).length = (tObj.row T).length := fun v y => by rw [zp4, List.length_set]
 have hll3 : ∀ y, ((tObj.row T).set (q * 5 + 3) y).length = (tObj.row T).length := fun y => List.length_set ..
 have hrf2 : ∀ v y, AV.refs.refsL (richRow ((tObj.row T).set (q * 5 + 3) y) (q * 5 + 2) v) = v.refs := fun v y => zpe (by rw [List.length_set]; omega)
 have hgt2 : ∀ v y, (richRow ((tObj.row T).set (q * 5 + 3) y) (q * 5 + 2) v)[q * 5 + 2]? = some v := fun v y => zp1 (by rw [List.length_set]; omega)
 have hrs2 : ∀ v w y, setAll (richRow ((tObj.row T).set (q * 5 + 3) y) (q * 5 + 2) v) (q * 5 + 2) [w] = richRow ((tObj.row T).set (q * 5 + 3) y) (q * 5 + 2) w := fun v w y => zp6 _ _ v w
 have hmk : ∀ w, setAll ((tObj.row T).map AV.imm) (q * 5 + 2) [w] = richRow (tObj.row T) (q * 5 + 2) w := fun w => zp5 _ _ w
 have hmk2 : ∀ w y, setAll (((tObj.row T).map AV.imm).set (q * 5 + 3) (.imm y)) (q * 5 + 2) [w] = richRow ((tObj.row T).set (q * 5 + 3) y) (q * 5 + 2) w := fun w y => by rw [← List.map_set]; exact zp5 _ _ w
 have f1 := zig (ext := ext) c.c581 v k
 have f2 := zlk (ext := ext) c.c213 v.k v.n hv hq (by omega)
 have hcl : (tObj.row T)[q * 5 + 2]? = some (.val (.slice none 0 0)) := by rw [← hnil]; exact zqm ho
 have hsf : ∀ y, setAll (tObj.row T) (q * 5 + 3) [y] = (tObj.row T).set (q * 5 + 3) y := fun y => rfl
 have hcl2 : ∀ y, ((tObj.row T).set (q * 5 + 3) y)[q * 5 + 2]? = some (.val (.slice none 0 0)) := fun y => by rw [List.getElem?_set_ne (by omega)]; exact hcl
 have w2 : IntKind.wrap .i64 (2 : Int) = 2 := rfl
 have hrow : tVal.row [k, x] = [.val (.int .u8 k.k), .val (.int .i64 k.n), .val (.int .u8 x.k), .val (.int .i64 x.n)] := rfl
 have w1 : IntKind.wrap .i64 (131072 : Int) = 131072 := rfl
 have w7 : IntKind.wrap .i64 (65536 : Int) = 65536 := rfl
 have w6 : IntKind.wrap .i64 (8 : Int) = 8 := rfl
 rw [v5] at f1 f2
 simp only [decide_true, Bool.true_or] at f1
 unfold valA at *
 rw [v5]
 rw [zbs code ext c.c215]
 by_cases hroom : o.room < ((0 : Nat) : Int) + 2
 ·obtain ⟨room, hrm⟩ : ∃ room : Int, room = if (4 * 2 : Int) < 2 * o.room then 2 * o.room else 4 * 2 := ⟨_, rfl⟩
  have hg1 : growR 2 0 o.room = room := by unfold growR; rw [if_pos hroom, hrm]
  have hg2 : growU 2 0 o.room = 1 + 2 * room := by unfold growU; rw [if_pos hroom, hg1]
  have hrb : 0 ≤ room ∧ room ≤ 262144 := by rw [hrm]; split <;> omega
  have hrm : room = if (8 : Int) < 2 * o.room then 2 * o.room else 8 := hrm
  have w3 : IntKind.wrap .i64 (2 * o.room) = 2 * o.room := wrapI64 (by omega) (by omega)
  have w4 : IntKind.wrap .i64 (2 * room) = 2 * room := wrapI64 (by omega) (by omega)
  have w5 : IntKind.wrap .i64 (1 + 2 * room) = 1 + 2 * room := wrapI64 (by omega) (by omega)
  have f3 := zl0 (ext := ext) c.c218 false T (w := 1 + 2 * room) (by omega) (by omega)
  have hroom' : o.room < 2 := by omega
  rw [hg1, hg2]
  unfold roomAt
  try unfold sM at *
  try unfold rU at *
  simp only [Bool.false_eq_true, if_false] at *
  generalize tObj.row T = R at *
  generalize T.length = N at *
  generalize o.room = rm at *
  simp -implicitDefEqProofs [x215, f1, f2, exLook, exPeek, p1, w1, w2, w6, w7, exAppendX, exAppend, elems, hll, hll2, hll3, hrs, hrs2, hrr, hgt, hgt2, hgr, hrf, hrf2, hR1, hR2, hmk, hmk2, hcl, hcl2, hrow, hcell, hsf, hat, f3, w3, ← hrm, w4, w5, hroom']
 ·have hg1 : growR 2 0 o.room = o.room := by unfold growR; rw [if_neg hroom]
  have hg2 : growU 2 0 o.room = 0 := by unfold growU; rw [if_neg hroom]
  have hroom' : ¬ o.room < 2 := by omega
  rw [hg1, hg2, zqf hcell]
  try unfold sM at *
  try unfold rU at *
  simp only [Bool.false_eq_true, if_false] at *
  generalize tObj.row T = R at *
  generalize T.length = N at *
  generalize o.room = rm at *
  simp -implicitDefEqProofs [x215, f1, f2, exLook, exPeek, p1, w1, w2, w6, w7, exAppendX, exAppend, elems, hll, hll2, hll3, hrs, hrs2, hrr, hgt, hgt2, hgr, hrf, hrf2, hR1, hR2, hmk, hmk2, hcl, hcl2, hrow, hcell, hsf, hat, hroom']
end
end Go.EX


namespace Go.EX
section
variable {code : Nat → Option XFun} {ext : Calls'}
theorem zog (c : PutFns code) (nl : Bool) (T : List Obj) {v k x : Val} (h : ¬ (v.k = 5 ∨ (v.k = 4 ∧ k.k = 2))) :
  callW code ext 215 [.optr 0 0, valA v, valA k, valA x] (sM nl T) = some (didP 0 0 kindT, sM nl T) := by
 have f1 := zig (ext := ext) c.c581 v k
 rw [zbs code ext c.c215]
 unfold sM valA
 generalize tObj.row T = R at *
 by_cases h3 : v.k = 3
 ·rw [h3] at f1 ⊢
  by_cases k2 : k.k = 2
  ·rw [k2] at f1 ⊢
   simp only [decide_true, Bool.or_true, Bool.true_or, Bool.and_true] at f1
   cases nl <;> simp -implicitDefEqProofs [x215, f1]
  ·have hf : (decide ((3 : Int) = 5) || ((decide ((3 : Int) = 4) || decide ((3 : Int) = 3)) && decide (k.k = 2))) = false := by simp [k2]
   rw [hf] at f1
   cases nl <;> simp -implicitDefEqProofs [x215, f1]
 ·have hf : (decide (v.k = 5) || ((decide (v.k = 4) || decide (v.k = 3)) && decide (k.k = 2))) = false := by
   cases hh : (decide (v.k = 5) || ((decide (v.k = 4) || decide (v.k = 3)) && decide (k.k = 2))) with
   | false => rfl
   | true =>
    simp at hh
    omega
  rw [hf] at f1
  cases nl <;> simp -implicitDefEqProofs [x215, f1]
theorem zn9 (c : PutFns code) {T : List Obj} (hn : T.length ≤ 100000000) {q : Nat} (hq : q < T.length) {v k x : Val} (v4 : v.k = 4) (k2 : k.k = 2) (hv : (q : Int) = v.n - 1) {o : Obj} (ho : T[q]? = some o) (hl : o.l.xs.length ≤ 1000000) (hk : k.n < 0 ∨ (o.l.xs.length : Int) < k.n) :
  callW code ext 215 [.optr 0 0, valA v, valA k, valA x] (sM false T) = some (didP 0 0 boundsN, sM false T) := by
 have f1 := zig (ext := ext) c.c581 v k
 have f2 := zlk (ext := ext) c.c213 v.k v.n hv hq (by omega)
 have g1 := zqm ho
 have elen := zo6 o.l.ok
 rw [v4, k2] at f1
 rw [v4] at f2
 simp only [decide_true, decide_false, Bool.or_true, Bool.true_or, Bool.true_and, Bool.and_true] at f1
 unfold valA
 rw [v4, k2]
 rw [zbs code ext c.c215]
 unfold sM at *
 simp only [Bool.false_eq_true, if_false] at *
 generalize tObj.row T = R at *
 generalize T.length = N at *
 generalize o.l.iv = iv at *
 generalize o.l.xs.length = n at *
 by_cases h0 : k.n < 0
 ·simp -implicitDefEqProofs [x215, f1, f2, exLook, g1, elen, h0]
 ·have h1 : (n : Int) < k.n := by omega
  simp -implicitDefEqProofs [x215, f1, f2, exLook, g1, elen, h0, h1]
theorem zd6 (c206 : code 206 = some x206) (c580 : code 580 = some x580) (nl : Bool) (T : List Obj) {v k x : Val} (hw : ∀ y ∈ [v, k, x], tVal.wf y) (h7 : ([v, k, x].any fun v => decide (v.k = 7)) = false) (t : ByteArray)
  (f2 : callW code ext 215 [.optr 0 0, valA v, valA k, valA x] (sM nl T) = some (didP 0 0 t, sM nl T)) :
  callW code ext 206 [.optr 0 0, .agg [.imm (.val (.int .u8 25)), int64 0, .osl 1 0 2 3 (some 3), nilS]] (sL nl T (tVal.row [v, k, x]) 0) = some (didP 0 0 t, sL nl T (tVal.row [v, k, x]) 0) := by
 obtain ⟨m, f1⟩ := cellsN (ext := ext) c580 (lv := .slice (tVal.row [v, k, x]) 0 3 (some 3)) (zo8 _ _ hw (by simp) (fun c h => by cases h; exact Nat.le_refl _)) (by simp)
 have hrow : tVal.row [v, k, x] = [.val (.int .u8 v.k), .val (.int .i64 v.n), .val (.int .u8 k.k), .val (.int .i64 k.n), .val (.int .u8 x.k), .val (.int .i64 x.n)] := rfl
 rw [h7] at f1
 rw [hrow] at f1 ⊢
 unfold valA at f2
 rw [zbs code ext c206]
 unfold sL sM at *
 generalize tObj.row T = R at *
 cases nl
 ·simp only [Bool.false_eq_true, if_false] at f2 ⊢
  simp -implicitDefEqProofs [x206, f1, f2]
 ·simp only [if_true] at f2 ⊢
  simp -implicitDefEqProofs [x206, f1, f2]
def rL (R : List IV) (N q : Nat) (L W : List IV) (n : Nat) (cap : Option Nat) (u : Int) : Mem := [.rich [.osl 2 0 5 N (some N), int64 1152921504606846976, int64 u], .flat L false, .rich (richRow R (q * 5 + 2) (.osl 3 0 2 n cap)), .flat W false]
def rLV (R : List IV) (N q : Nat) (L W W2 : List IV) (n : Nat) (cap : Option Nat) (u : Int) : Mem := [.rich [.osl 2 0 5 N (some N), int64 1152921504606846976, int64 u], .flat L false, .rich (richRow R (q * 5 + 2) (.osl 4 0 2 n cap)), .flat W false, .flat W2 false]
theorem zd5 (c206 : code 206 = some x206) (c580 : code 580 = some x580) {T : List Obj} {q : Nat} (hq : q < T.length) {v k x : Val} (hw : ∀ y ∈ [v, k, x], tVal.wf y) (h7 : ([v, k, x].any fun v => decide (v.k = 7)) = false) (W W2 : List IV) (n : Nat) (cap : Option Nat)
  (f2 : callW code ext 215 [.optr 0 0, valA v, valA k, valA x] (rM T q W n cap) = some (didP 0 0 .empty, rU (tObj.row T) T.length q W2 n cap 0)) :
  callW code ext 206 [.optr 0 0, .agg [.imm (.val (.int .u8 25)), int64 0, .osl 1 0 2 3 (some 3), nilS]] (rL (tObj.row T) T.length q (tVal.row [v, k, x]) W n cap 0) = some (didP 0 0 .empty, rL (tObj.row T) T.length q (tVal.row [v, k, x]) W2 n cap 0) := by
 obtain ⟨m, f1⟩ := cellsN (ext := ext) c580 (lv := .slice (tVal.row [v, k, x]) 0 3 (some 3)) (zo8 _ _ hw (by simp) (fun c h => by cases h; exact Nat.le_refl _)) (by simp)
 have hrow : tVal.row [v, k, x] = [.val (.int .u8 v.k), .val (.int .i64 v.n), .val (.int .u8 k.k), .val (.int .i64 k.n), .val (.int .u8 x.k), .val (.int .i64 x.n)] := rfl
 have p1 := zpu
 have hrl : (tObj.row T).length = T.length * 5 := zqn tObj T
 have hrf : ∀ v : AV, AV.refs.refsL (richRow (tObj.row T) (q * 5 + 2) v) = v.refs := fun v => zpe (by omega)
 rw [h7] at f1
 rw [hrow] at f1 ⊢
 unfold valA at f2
 rw [zbs code ext c206]
 unfold rL rM rU at *
 generalize tObj.row T = R at *
 generalize T.length = N at *
 simp -implicitDefEqProofs [x206, f1, f2, hrf, p1]
theorem zd3 (c206 : code 206 = some x206) (c580 : code 580 = some x580) {T : List Obj} {q : Nat} (hq : q < T.length) {v k x : Val} (hw : ∀ y ∈ [v, k, x], tVal.wf y) (h7 : ([v, k, x].any fun v => decide (v.k = 7)) = false) (W W2 : List IV) (n n2 : Nat) (cap : Option Nat) (room u : Int)
  (f2 : callW code ext 215 [.optr 0 0, valA v, valA k, valA x] (rM T q W n cap) = some (didP 0 0 .empty, rV (roomAt (tObj.row T) q room) T.length q W W2 n2 none u)) :
  callW code ext 206 [.optr 0 0, .agg [.imm (.val (.int .u8 25)), int64 0, .osl 1 0 2 3 (some 3), nilS]] (rL (tObj.row T) T.length q (tVal.row [v, k, x]) W n cap 0) = some (didP 0 0 .empty, rLV (roomAt (tObj.row T) q room) T.length q (tVal.row [v, k, x]) W W2 n2 none u) := by
 obtain ⟨m, f1⟩ := cellsN (ext := ext) c580 (lv := .slice (tVal.row [v, k, x]) 0 3 (some 3)) (zo8 _ _ hw (by simp) (fun c h => by cases h; exact Nat.le_refl _)) (by simp)
 have hrow : tVal.row [v, k, x] = [.val (.int .u8 v.k), .val (.int .i64 v.n), .val (.int .u8 k.k), .val (.int .i64 k.n), .val (.int .u8 x.k), .val (.int .i64 x.n)] := rfl
 have p1 := zpu
 have hrl : (tObj.row T).length = T.length * 5 := zqn tObj T
 have hrf : ∀ v : AV, AV.refs.refsL (richRow (tObj.row T) (q * 5 + 2) v) = v.refs := fun v => zpe (by omega)
 have hrf2 : ∀ v : AV, AV.refs.refsL (richRow (roomAt (tObj.row T) q room) (q * 5 + 2) v) = v.refs := fun v => zpe (by unfold roomAt; rw [List.length_set]; omega)
 rw [h7] at f1
 rw [hrow] at f1 ⊢
 unfold valA at f2
 rw [zbs code ext c206]
 unfold rL rLV rM rV at *
 generalize roomAt (tObj.row T) q room = R1 at *
 generalize tObj.row T = R at *
 generalize T.length = N at *
 simp -implicitDefEqProofs [x206, f1, f2, hrf, hrf2, p1]
theorem zd4 (c206 : code 206 = some x206) (c580 : code 580 = some x580) {T : List Obj} {q : Nat} (hq : q < T.length) {v k x : Val} (hw : ∀ y ∈ [v, k, x], tVal.wf y) (h7 : ([v, k, x].any fun v => decide (v.k = 7)) = false) (W2 : List IV) (n2 : Nat) (room u : Int)
  (f2 : callW code ext 215 [.optr 0 0, valA v, valA k, valA x] (sM false T) = some (didP 0 0 .empty, rU (roomAt (tObj.row T) q room) T.length q W2 n2 none u)) :
  callW code ext 206 [.optr 0 0, .agg [.imm (.val (.int .u8 25)), int64 0, .osl 1 0 2 3 (some 3), nilS]] (sL false T (tVal.row [v, k, x]) 0) = some (didP 0 0 .empty, rL (roomAt (tObj.row T) q room) T.length q (tVal.row [v, k, x]) W2 n2 none u) := by
 obtain ⟨m, f1⟩ := cellsN (ext := ext) c580 (lv := .slice (tVal.row [v, k, x]) 0 3 (some 3)) (zo8 _ _ hw (by simp) (fun c h => by cases h; exact Nat.le_refl _)) (by simp)
 have hrow : tVal.row [v, k, x] = [.val (.int .u8 v.k), .val (.int .i64 v.n), .val (.int .u8 k.k), .val (.int .i64 k.n), .val (.int .u8 x.k), .val (.int .i64 x.n)] := rfl
 have p1 := zpu
 have hrl : (tObj.row T).length = T.length * 5 := zqn tObj T
 have hrf2 : ∀ v : AV, AV.refs.refsL (richRow (roomAt (tObj.row T) q room) (q * 5 + 2) v) = v.refs := fun v => zpe (by unfold roomAt; rw [List.length_set]; omega)
 rw [h7] at f1
 rw [hrow] at f1 ⊢
 unfold valA at f2
 rw [zbs code ext c206]
 unfold sL sM rU rL at *
 simp only [Bool.false_eq_true, if_false] at *
 generalize roomAt (tObj.row T) q room = R1 at *
 generalize tObj.row T = R at *
 generalize T.length = N at *
 simp -implicitDefEqProofs [x206, f1, f2, hrf2, p1]
end
end Go.EX


namespace Go.EX
section
variable {code : Nat → Option XFun} {ext : Calls'}
def askP (o u : Obj) : Int := if wordsObj u = wordsObj o then 0 else 1 + 2 * u.room
theorem za5 (h : code 639 = some x639) (h1 : code 578 = some x578) {T : List Obj} {q : Nat} {o u : Obj} (ho : T[q]? = some o) (hr0 : 0 ≤ u.room) (hr1 : u.room ≤ 1000000) (cap : Option Nat) (hn : T.length ≤ 100000000) :
  callW code ext 639 [.imm (.slice (tObj.row (T.set q u)) 0 T.length cap), .imm (.slice (sizeRow T) 0 T.length none)] [] = some (int64 (askP o u), []) := by
 have hq : q < T.length := (List.getElem?_eq_some_iff.1 ho).1
 have hlen : (T.set q u).length = T.length := List.length_set ..
 have w2 : IntKind.wrap .i64 (2 * u.room) = 2 * u.room := wrapI64 (by omega) (by omega)
 have w3 : IntKind.wrap .i64 (1 + 2 * u.room) = 1 + 2 * u.room := wrapI64 (by omega) (by omega)
 have loop : ∃ e s', den code ext (.loop [1, 4, 7, 8, 9] x639L1) ⟨0, [(1, .imm (.slice (sizeRow T) 0 T.length none)), (4, int64 0), (7, .imm (.slice (tObj.row (T.set q u)) 0 T.length cap)), (8, int64 T.length), (9, int64 0)], []⟩ = some (e, s') ∧ e ≠ .normal ∧ (e = .exit 0 ∧
   s' = ⟨0, [(1, .imm (.slice (sizeRow T) 0 T.length none)), (4, int64 (askP o u)), (7, .imm (.slice (tObj.row (T.set q u)) 0 T.length cap)), (8, int64 T.length), (9, int64 T.length), (10, avb false)], []⟩) := by
  refine zjt (fun n s => ∃ i, i + n = T.length ∧ s.tidy [1, 4, 7, 8, 9] = ⟨0, [(1, .imm (.slice (sizeRow T) 0 T.length none)), (4, int64 (if q < i then askP o u else 0)), (7, .imm (.slice (tObj.row (T.set q u)) 0 T.length cap)), (8, int64 T.length), (9, int64 (i : Nat))], []⟩) _ ?_ T.length _ ⟨0, by simp, by
   rw [if_neg (Nat.not_lt_zero _)]
   generalize tObj.row (T.set q u) = C
   generalize sizeRow T = W
   generalize T.length = N
   simp -implicitDefEqProofs⟩
  rintro n s ⟨i, hi, hst⟩
  rw [hst]
  by_cases hlt : i < T.length
  ·have e1 : IntKind.wrap .i64 ((i : Int) + 1) = (i : Int) + 1 := wrapI64 (by omega) (by omega)
   have hlt' : (i : Int) < T.length := by omega
   have hge : ¬ (T.length : Int) ≤ i := by omega
   obtain ⟨z, hT⟩ : ∃ z, T[i]? = some z := ⟨_, List.getElem?_eq_getElem hlt⟩
   have hw : (sizeRow T)[i]? = some (.val (.int .i64 (wordsObj z))) := by unfold sizeRow; rw [List.getElem?_map, hT]; rfl
   by_cases hiq : i = q
   ·subst hiq
    have hzo : z = o := by rw [hT] at ho; exact Option.some.inj ho
    subst hzo
    have hx : (T.set i u)[i]? = some u := List.getElem?_set_self hlt
    have hel := zf4 (t := tObj) hx
    obtain ⟨m, hs⟩ := zsh (ext := ext) h1 u
    simp only [tObj] at hel
    have hel' : cut (tObj.row (T.set i u)) (i * 5) 5 = some [.val (.int .u8 u.k), .val (.string u.s), u.l.iv, .val (.int .i64 u.room), .val (.int .i64 u.fn)] := hel
    rw [if_neg (Nat.lt_irrefl _)]
    unfold askP
    by_cases heq : wordsObj u = wordsObj z
    ·rw [if_pos heq]
     rw [← heq] at hw
     refine ⟨.normal, ⟨0, [(1, .imm (.slice (sizeRow T) 0 T.length none)), (4, int64 0), (7, .imm (.slice (tObj.row (T.set i u)) 0 T.length cap)), (8, int64 T.length), (9, int64 ((i : Int) + 1))], [.rich [.imm (.val (.int .u8 u.k)), strV u.s, .imm u.l.iv, int64 u.room, int64 u.fn]]⟩, ?_, .inl ⟨rfl, n - 1, by omega, i + 1, by omega, ?_⟩⟩
     ·clear hel hT
      generalize wordsObj u = w at *
      generalize tObj.row (T.set i u) = C at *
      generalize sizeRow T = W at *
      generalize T.length = N at *
      simp -implicitDefEqProofs [x639L1, hlt, hlt', hge, hel', hs, hw, e1]
     ·rw [if_pos (by omega)]
      generalize tObj.row (T.set i u) = C at *
      generalize sizeRow T = W at *
      generalize T.length = N at *
      simp -implicitDefEqProofs
    ·rw [if_neg heq]
     have hne : ¬ wordsObj u = wordsObj z := heq
     refine ⟨.normal, ⟨0, [(1, .imm (.slice (sizeRow T) 0 T.length none)), (4, int64 (1 + 2 * u.room)), (7, .imm (.slice (tObj.row (T.set i u)) 0 T.length cap)), (8, int64 T.length), (9, int64 ((i : Int) + 1))], [.rich [.imm (.val (.int .u8 u.k)), strV u.s, .imm u.l.iv, int64 u.room, int64 u.fn]]⟩, ?_, .inl ⟨rfl, n - 1, by omega, i + 1, by omega, ?_⟩⟩
     ·clear hel hT
      generalize wordsObj z = w0 at *
      generalize wordsObj u = w at *
      generalize tObj.row (T.set i u) = C at *
      generalize sizeRow T = W at *
      generalize T.length = N at *
      simp -implicitDefEqProofs [x639L1, hlt, hlt', hge, hel', hs, hw, e1, hne, w2, w3]
     ·rw [if_pos (by omega)]
      generalize tObj.row (T.set i u) = C at *
      generalize sizeRow T = W at *
      generalize T.length = N at *
      simp -implicitDefEqProofs
   ·have hx : (T.set q u)[i]? = some z := by rw [List.getElem?_set_ne (fun e => hiq e.symm)]; exact hT
    have hel := zf4 (t := tObj) hx
    obtain ⟨m, hs⟩ := zsh (ext := ext) h1 z
    have hel' : cut (tObj.row (T.set q u)) (i * 5) 5 = some [.val (.int .u8 z.k), .val (.string z.s), z.l.iv, .val (.int .i64 z.room), .val (.int .i64 z.fn)] := hel
    have hif : (if q < i + 1 then askP o u else 0) = if q < i then askP o u else 0 := by
     by_cases hqi : q < i
     ·rw [if_pos hqi, if_pos (by omega)]
     ·rw [if_neg hqi, if_neg (by omega)]
    generalize (if q < i then askP o u else 0) = a at *
    refine ⟨.normal, ⟨0, [(1, .imm (.slice (sizeRow T) 0 T.length none)), (4, int64 a), (7, .imm (.slice (tObj.row (T.set q u)) 0 T.length cap)), (8, int64 T.length), (9, int64 ((i : Int) + 1))], [.rich [.imm (.val (.int .u8 z.k)), strV z.s, .imm z.l.iv, int64 z.room, int64 z.fn]]⟩, ?_, .inl ⟨rfl, n - 1, by omega, i + 1, by omega, ?_⟩⟩
    ·clear hel hT hx
     generalize wordsObj z = w at *
     generalize tObj.row (T.set q u) = C at *
     generalize sizeRow T = W at *
     generalize T.length = N at *
     simp -implicitDefEqProofs [x639L1, hlt, hlt', hge, hel', hs, hw, e1]
    ·rw [hif]
     generalize tObj.row (T.set q u) = C at *
     generalize sizeRow T = W at *
     generalize T.length = N at *
     simp -implicitDefEqProofs
  ·have : i = T.length := by omega
   subst this
   rw [if_pos hq]
   refine ⟨.exit 0, _, ?_, .inr ⟨by simp, rfl, rfl⟩⟩
   generalize tObj.row (T.set q u) = C at *
   generalize sizeRow T = W at *
   generalize T.length = N at *
   simp -implicitDefEqProofs [x639L1]
 obtain ⟨e, s', l1, _, rfl, rfl⟩ := loop
 rw [zbs code ext h]
 unfold x639
 generalize x639L1 = L at *
 generalize tObj.row (T.set q u) = C at *
 generalize sizeRow T = W at *
 generalize T.length = N at *
 simp -implicitDefEqProofs [l1]
theorem zty {q : Nat} (c : TwinCode code q) {T : List Obj} {o : Obj} (ho : T[q]? = some o) (hT : ∀ o ∈ T, o.l.xs.length ≤ 1000000) (hn : T.length ≤ 10000000) (hz : isNilIV o.l.iv = false) (cap cap0 : Option Nat) :
  callW code ext 643 [.osl 0 0 5 T.length cap0] [.rich (richRow (tObj.row T) (q * 5 + 2) (.osl 1 0 2 o.l.xs.length cap)), .flat (tVal.row o.l.xs) false] =
   some (.osl 2 0 5 T.length (some T.length), [.rich (richRow (tObj.row T) (q * 5 + 2) (.osl 1 0 2 o.l.xs.length cap)), .flat (tVal.row o.l.xs) false, .rich (richRow (tObj.row (T.map cloneObj)) (q * 5 + 2) (.osl 3 0 2 o.l.xs.length (some o.l.xs.length))), .flat (tVal.row o.l.xs) false]) := by
 have hq : q < T.length := (List.getElem?_eq_some_iff.1 ho).1
 have hrl : (tObj.row T).length = T.length * 5 := zqn tObj T
 have hrl2 : (tObj.row (T.map cloneObj)).length = T.length * 5 := by have := zqn tObj (T.map cloneObj); rw [List.length_map] at this; exact this
 have hb := hT o (List.mem_of_getElem? ho)
 have g1 := zcs (ext := ext) c.c743 (T := T) (by omega) (by omega) cap0 (q * 5 + 2) (by omega) o.l.xs.length cap (tVal.row o.l.xs)
 have hrf : ∀ v, AV.refs.refsL (richRow (tObj.row T) (q * 5 + 2) v) = v.refs := fun v => zpe (by omega)
 have hrf2 : ∀ v, AV.refs.refsL (richRow (tObj.row (T.map cloneObj)) (q * 5 + 2) v) = v.refs := fun v => zpe (by omega)
 have p1 := zpu
 have loop : ∃ e s', den code ext (.loop [3, 8, 9] (x643PL1 (q * 5 + 2))) ⟨2, [(3, .osl 2 0 5 T.length none), (8, int64 T.length), (9, int64 0)], [.rich (richRow (tObj.row T) (q * 5 + 2) (.osl 1 0 2 o.l.xs.length cap)), .flat (tVal.row o.l.xs) false, .rich (richRow (tObj.row T) (q * 5 + 2) (.osl 1 0 2 o.l.xs.length cap))]⟩ = some (e, s') ∧ e ≠ .normal ∧
   (e = .exit 0 ∧ s' = ⟨2, [(3, .osl 2 0 5 T.length none), (8, int64 T.length), (9, int64 T.length), (10, avb false)], [.rich (richRow (tObj.row T) (q * 5 + 2) (.osl 1 0 2 o.l.xs.length cap)), .flat (tVal.row o.l.xs) false, .rich (richRow (tObj.row (T.map cloneObj)) (q * 5 + 2) (.osl 3 0 2 o.l.xs.length (some o.l.xs.length))), .flat (tVal.row o.l.xs) false]⟩) := by
  refine zjt (fun n s => ∃ i, i + n = T.length ∧ s.tidy [3, 8, 9] = ⟨2, [(3, .osl 2 0 5 T.length none), (8, int64 T.length), (9, int64 (i : Nat))], [.rich (richRow (tObj.row T) (q * 5 + 2) (.osl 1 0 2 o.l.xs.length cap)), .flat (tVal.row o.l.xs) false, .rich (richRow (tObj.row ((T.take i).map cloneObj ++ T.drop i)) (q * 5 + 2) (.osl (if decide (q < i) = true then 3 else 1) 0 2 o.l.xs.length (if q < i then some o.l.xs.length else cap)))] ++ if decide (q < i) = true then [.flat (tVal.row o.l.xs) false] else []⟩) _ ?_ T.length _ ⟨0, by simp, by
   rw [List.take_zero, List.map_nil, List.nil_append, List.drop_zero, if_neg (Nat.not_lt_zero _), if_neg (by simp), if_neg (by simp)]
   generalize tObj.row T = R at *
   generalize tVal.row o.l.xs = W
   generalize o.l.xs.length = n at *
   generalize T.length = N at *
   simp -implicitDefEqProofs [hrf, p1]⟩
  rintro n s ⟨i, hi2, hst⟩
  rw [hst]
  by_cases hlt : i < T.length
  ·have hrd := zqh T (i := i) hlt
   by_cases hiq : i = q
   ·subst hiq
    obtain ⟨s', g1, g2⟩ := zt7 (ext := ext) c.c742 c.c740 (by omega) hrd ho hb cap (tObj.row T) hrl none
    rw [if_neg (Nat.lt_irrefl _), if_neg (by simp), if_neg (by simp), List.append_nil]
    refine ⟨.normal, s', g1, .inl ⟨rfl, n - 1, by omega, i + 1, by omega, ?_⟩⟩
    rw [g2, if_pos (Nat.lt_succ_self i), if_pos (by simp), if_pos (by simp), Int.natCast_add]
    rfl
   ·obtain ⟨u, hu⟩ : ∃ u, T[i]? = some u := ⟨_, List.getElem?_eq_getElem hlt⟩
    obtain ⟨s', g1, g2⟩ := zt8 (ext := ext) c.c742 c.c740 (by omega) hrd hu (hT u (List.mem_of_getElem? hu)) (q * 5 + 2) (by omega) q hiq hq o.l.xs.length cap (tVal.row o.l.xs) (tObj.row T) hrl none (decide (q < i)) (if q < i then some o.l.xs.length else cap)
    refine ⟨.normal, s', g1, .inl ⟨rfl, n - 1, by omega, i + 1, by omega, ?_⟩⟩
    have e1 : decide (q < i + 1) = decide (q < i) := by
     by_cases h : q < i
     ·simp [h]; omega
     ·simp [h]; omega
    have e2 : (if q < i + 1 then some o.l.xs.length else cap) = if q < i then some o.l.xs.length else cap := by
     by_cases h : q < i
     ·rw [if_pos h, if_pos (by omega)]
     ·rw [if_neg h, if_neg (by omega)]
    rw [g2, e1, e2, Int.natCast_add]
    rfl
  ·have : i = T.length := by omega
   subst this
   rw [List.take_length, List.drop_length, List.append_nil, if_pos hq, if_pos (by simpa using hq), if_pos (by simpa using hq)]
   refine ⟨.exit 0, _, ?_, .inr ⟨by simp, rfl, rfl⟩⟩
   generalize tObj.row (T.map cloneObj) = R2 at *
   generalize tObj.row T = R at *
   generalize tVal.row o.l.xs = W
   generalize o.l.xs.length = n at *
   generalize T.length = N at *
   simp -implicitDefEqProofs [x643PL1]
 obtain ⟨e, s', l1, _, rfl, rfl⟩ := loop
 have g2 : callW code ext 741 [.osl 0 0 5 T.length none] [.rich (richRow (tObj.row (T.map cloneObj)) (q * 5 + 2) (.osl 1 0 2 o.l.xs.length (some o.l.xs.length))), .flat (tVal.row o.l.xs) false] = some (.osl 0 0 5 T.length (some T.length), [.rich (richRow (tObj.row (T.map cloneObj)) (q * 5 + 2) (.osl 1 0 2 o.l.xs.length (some o.l.xs.length))), .flat (tVal.row o.l.xs) false]) := by
  rw [zbs code ext c.c741]
  generalize tObj.row (T.map cloneObj) = R2 at *
  generalize T.length = N1 at *
  simp -implicitDefEqProofs [x741, exSlice3, hrf2, p1]
 rw [zbs code ext c.c643]
 unfold x643P
 generalize x643PL1 (q * 5 + 2) = L at *
 generalize tObj.row (T.map cloneObj) = R2 at *
 generalize tObj.row T = R at *
 generalize tVal.row o.l.xs = W at *
 generalize o.l.xs.length = n at *
 generalize T.length = N at *
 simp -implicitDefEqProofs [g1, g2, l1, hrf, hrf2, p1]
end
end Go.EX


namespace Go.EX
theorem zqq : ∀ (xs : List Obj) (i : Nat) (o : Obj) (room : Int), xs[i]? = some o → roomAt (tObj.row xs) i room = tObj.row (xs.set i { o with room := room })
 | [], i, o, room, h => by cases h
 | x :: r, 0, o, room, h => by
  cases h
  simp [Ty.row, tObj, roomAt]
 | x :: r, i + 1, o, room, h => by
  have ih := zqq r i o room (by simpa using h)
  have c : ∀ (y : Obj) (l : List Obj), tObj.row (y :: l) = tObj.enc y ++ tObj.row l := fun y l => by simp [Ty.row]
  have e : (i + 1) * 5 + 3 = (tObj.enc x).length + (i * 5 + 3) := by show _ = 5 + _; omega
  unfold roomAt at ih ⊢
  rw [List.set_cons_succ, c, c, e, ← ih, List.set_append_right _ _ (by omega)]
  congr 2
  omega
theorem zqa (R : List IV) (p : Nat) (y : IV) (v : AV) : richRow (R.set p y) p v = richRow R p v := by
 unfold richRow
 rw [List.map_set, List.set_set]
theorem zqc {T : List Obj} {q : Nat} {o : Obj} (ho : T[q]? = some o) (l : Sl tVal) (room : Int) (v : AV) : richRow (roomAt (tObj.row T) q room) (q * 5 + 2) v = richRow (tObj.row (T.set q { o with room := room, l := l })) (q * 5 + 2) v := by
 have hq := (List.getElem?_eq_some_iff.1 ho).1
 rw [zqq T q o room ho]
 have h2 : (T.set q { o with room := room })[q]? = some { o with room := room } := List.getElem?_set_self hq
 have h3 := zqp (T.set q { o with room := room }) q _ l h2
 rw [List.set_set] at h3
 rw [← h3, zqa]
structure PutCode (code : Nat → Option XFun) (idx : Nat) : Prop extends PutFns code, TwinCode code idx where
 c578 : code 578 = some x578
 c639 : code 639 = some x639
 c640 : code 640 = some x640N
 c641 : code 641 = some x641V
 c642 : code 642 = some x642
 c749 : code 749 = some x749
 c759 : code 759 = some x759
section
variable {code : Nat → Option XFun} {ext : Calls'}
set_option maxHeartbeats 8000000 in
theorem zdx {q : Nat} (c : PutCode code q) {sv : IV} {S : List Obj} (hrd : Reads tObj sv S) (hz : isNilIV sv = false) (hSl : ∀ o ∈ S, o.l.xs.length ≤ 1000000) (hlen : S.length ≤ 10000000) {o0 : Obj} (ho : S[q]? = some o0) (L : List IV)
  (ha : callW code ext 749 [.osl 0 0 2 3 (some 3), .clo 641 [.optr 1 0]] [.flat L false, .rich [.imm sv]] = some (avb false, [.flat L false, .rich [.imm sv]]))
  (xs2 : List Val) (hx2 : xs2.length ≤ 1000000) (cap2 : Option Nat) (l2 : Sl tVal) (hl2 : l2.xs = xs2) (hiv : l2.iv = .slice (tVal.row xs2) 0 xs2.length cap2) (room u : Int) (hr0 : 0 ≤ room) (hr1 : room ≤ 1000000)
  (hd : (isNilIV o0.l.iv = false ∧ (callW code ext 206 [.optr 0 0, .agg [.imm (.val (.int .u8 25)), int64 0, .osl 1 0 2 3 (some 3), nilS]] (rL (tObj.row (S.map cloneObj)) S.length q L (tVal.row o0.l.xs) o0.l.xs.length (some o0.l.xs.length) 0) = some (didP 0 0 .empty, rL (roomAt (tObj.row (S.map cloneObj)) q room) S.length q L (tVal.row xs2) xs2.length cap2 u) ∨
    callW code ext 206 [.optr 0 0, .agg [.imm (.val (.int .u8 25)), int64 0, .osl 1 0 2 3 (some 3), nilS]] (rL (tObj.row (S.map cloneObj)) S.length q L (tVal.row o0.l.xs) o0.l.xs.length (some o0.l.xs.length) 0) = some (didP 0 0 .empty, rLV (roomAt (tObj.row (S.map cloneObj)) q room) S.length q L (tVal.row o0.l.xs) (tVal.row xs2) xs2.length cap2 u))) ∨
   (isNilIV o0.l.iv = true ∧ callW code ext 206 [.optr 0 0, .agg [.imm (.val (.int .u8 25)), int64 0, .osl 1 0 2 3 (some 3), nilS]] [.rich [.osl 2 0 5 S.length (some S.length), int64 1152921504606846976, int64 0], .flat L false, .flat (tObj.row (S.map cloneObj)) false] = some (didP 0 0 .empty, rL (roomAt (tObj.row (S.map cloneObj)) q room) S.length q L (tVal.row xs2) xs2.length cap2 u))) :
  callW code ext 640 [.imm sv, .imm (.val (.int .u8 25)), int64 0, .osl 0 0 2 3 (some 3)] [.flat L false] =
   some (.agg [.osl 1 0 5 S.length (some S.length), .imm (.val (.int .u8 0)), int64 0, strV .empty, int64 (askP (cloneObj o0) { cloneObj o0 with room := room, l := l2 })], [.flat L false, .rich (richRow (tObj.row (((S.map cloneObj).set q { cloneObj o0 with room := room, l := l2 }).map cloneObj)) (q * 5 + 2) (.osl 2 0 2 xs2.length (some xs2.length))), .flat (tVal.row xs2) false]) := by
 have hq : q < S.length := (List.getElem?_eq_some_iff.1 ho).1
 have hml : (S.map cloneObj).length = S.length := List.length_map ..
 have hoT : (S.map cloneObj)[q]? = some (cloneObj o0) := by rw [List.getElem?_map, ho]; rfl
 have hxc : (cloneObj o0).l.xs = o0.l.xs := by
  unfold cloneObj cloneL
  dsimp only
  split <;> rfl
 have hrich := fun v => zqc hoT l2 room v
 obtain ⟨u2, hu2⟩ : ∃ u2 : Obj, u2 = { cloneObj o0 with room := room, l := l2 } := ⟨_, rfl⟩
 rw [← hu2] at hrich ⊢
 have hu2x : u2.l.xs = xs2 := by rw [hu2]; exact hl2
 have hu2i : u2.l.iv = .slice (tVal.row xs2) 0 xs2.length cap2 := by rw [hu2]; exact hiv
 have hu2r : u2.room = room := by rw [hu2]
 have hT2g : ((S.map cloneObj).set q u2)[q]? = some u2 := List.getElem?_set_self (by omega)
 have hT2l : ((S.map cloneObj).set q u2).length = S.length := by rw [List.length_set, hml]
 have h1 := zt4 (ext := ext) c.toTwinCode hrd hz hSl (by omega)
 have h2 := zsk (ext := ext) (T := S.map cloneObj) c.c642 c.c578 (some S.length) (zdh tObj _) (by rw [hml]; omega)
 have h3 := zty (ext := ext) c.toTwinCode hT2g (by
  intro y hy
  obtain ⟨i, hi⟩ := List.getElem?_of_mem hy
  by_cases hiq : i = q
  ·subst hiq
   rw [hT2g] at hi
   cases hi
   rw [hu2x]; exact hx2
  ·rw [List.getElem?_set_ne (fun e => hiq e.symm)] at hi
   exact zcq hSl y (List.mem_of_getElem? hi)) (by omega) (by rw [hu2i]; rfl) cap2 (some S.length)
 have h4 := za5 (ext := ext) c.c639 c.c578 hoT (u := u2) (by rw [hu2r]; exact hr0) (by rw [hu2r]; exact hr1) (some S.length) (by omega)
 rw [hu2x, hT2l] at h3
 unfold sizeV sizeM at h2
 rw [hml] at h2 h4
 rw [if_neg (by omega), if_neg (by omega)] at h2
 have hW := zsf (S.map cloneObj)
 have p1 := zpu
 have hrl : (tObj.row (S.map cloneObj)).length = S.length * 5 := by have := zqn tObj (S.map cloneObj); rw [hml] at this; exact this
 have hrl2 : (tObj.row ((S.map cloneObj).set q u2)).length = S.length * 5 := by have := zqn tObj ((S.map cloneObj).set q u2); rw [hT2l] at this; exact this
 have hrl3 : (tObj.row (((S.map cloneObj).set q u2).map cloneObj)).length = S.length * 5 := by have := zqn tObj (((S.map cloneObj).set q u2).map cloneObj); rw [List.length_map, hT2l] at this; exact this
 have hrf : ∀ v : AV, AV.refs.refsL (richRow (tObj.row (S.map cloneObj)) (q * 5 + 2) v) = v.refs := fun v => zpe (by omega)
 have hrf2 : ∀ v : AV, AV.refs.refsL (richRow (tObj.row ((S.map cloneObj).set q u2)) (q * 5 + 2) v) = v.refs := fun v => zpe (by omega)
 have hrf3 : ∀ v : AV, AV.refs.refsL (richRow (tObj.row (((S.map cloneObj).set q u2).map cloneObj)) (q * 5 + 2) v) = v.refs := fun v => zpe (by omega)
 have hfz2 := fun m id (hm : m[id]? = some (AObj.flat (tVal.row xs2) false)) => zgo m (id := id) (n := xs2.length) (cap := cap2) (R := tObj.row ((S.map cloneObj).set q u2)) (p := q * 5 + 2) (by rw [← hu2i]; exact zqm hT2g) hm
 unfold tgtM at h1
 rw [ho, show decide (q < S.length) = true by simpa using hq] at h1
 simp only [true_and] at h1
 rw [zbs code ext c.c640]
 rcases hd with ⟨hnz, hd⟩ | ⟨hnz, hd⟩
 ·rw [if_pos hnz] at h1
  have hci : (cloneObj o0).l.iv = .slice (tVal.row o0.l.xs) 0 o0.l.xs.length (some o0.l.xs.length) := by
   unfold cloneObj cloneL
   dsimp only
   rw [if_neg (by simp [hnz])]
  have hfz := fun m id (hm : m[id]? = some (AObj.flat (tVal.row o0.l.xs) false)) => zgo m (id := id) (n := o0.l.xs.length) (cap := some o0.l.xs.length) (R := tObj.row (S.map cloneObj)) (p := q * 5 + 2) (by rw [← hci]; exact zqm hoT) hm
  unfold rL rLV at hd
  simp only [hrich] at hd
  clear hrich hT2g hoT
  generalize askP (cloneObj o0) u2 = ask at *
  generalize tObj.row (((S.map cloneObj).set q u2).map cloneObj) = R3 at *
  generalize tObj.row ((S.map cloneObj).set q u2) = R2 at *
  generalize sizeRow (S.map cloneObj) = Z at *
  generalize tObj.row (S.map cloneObj) = R1 at *
  generalize tVal.row xs2 = W2 at *
  generalize tVal.row o0.l.xs = W at *
  generalize xs2.length = n2 at *
  generalize o0.l.xs.length = n at *
  generalize S.length = N at *
  rcases hd with hd | hd
  ·simp -implicitDefEqProofs [-IV.plain, x640N, exLook, h1, h2, h3, h4, ha, hd, hW, hrf, hrf2, hrf3, p1, hfz, hfz2]
  ·simp -implicitDefEqProofs [-IV.plain, x640N, exLook, h1, h2, h3, h4, ha, hd, hW, hrf, hrf2, hrf3, p1, hfz, hfz2]
 ·rw [if_neg (by simp [hnz])] at h1
  unfold rL at hd
  simp only [hrich] at hd
  clear hrich hT2g hoT
  generalize askP (cloneObj o0) u2 = ask at *
  generalize tObj.row (((S.map cloneObj).set q u2).map cloneObj) = R3 at *
  generalize tObj.row ((S.map cloneObj).set q u2) = R2 at *
  generalize sizeRow (S.map cloneObj) = Z at *
  generalize tObj.row (S.map cloneObj) = R1 at *
  generalize tVal.row xs2 = W2 at *
  generalize xs2.length = n2 at *
  generalize S.length = N at *
  simp -implicitDefEqProofs [-IV.plain, x640N, exLook, h1, h2, h3, h4, ha, hd, hW, hrf2, hrf3, p1, hfz2]
end
end Go.EX


namespace Go.EX
@[simp] theorem isNilK_tagP (b a : Nat) (row : List IV) (off : Nat) : isNilK 1 (.tag b a (.ptr row off)) = some false := rfl
@[simp] theorem isNilK_tagS (b a : Nat) (row : List IV) (off len : Nat) (cap : Option Nat) : isNilK 0 (.tag b a (.slice row off len cap)) = some false := rfl
@[simp] theorem isNil_tag (b a : Nat) (x : IV) : isNil (.tag b a x) = some false := rfl
@[simp] theorem lenOf_tag (b a : Nat) (row : List IV) (off len : Nat) (cap : Option Nat) : lenOf (.tag b a (.slice row off len cap)) = some len := rfl
structure TP where
 b : Nat
 a : Nat
 row : List IV
 off : Nat
def TP.at (t : TP) (k : Nat) : AV := .tag t.b (t.a + k * 5) (.ptr t.row (t.off + k * 5))
def TP.sl (t : TP) (n : Nat) (cap : Option Nat) : AV := .tag t.b t.a (.slice t.row t.off n cap)
@[simp] theorem at_ren (f : Nat → Option Nat) (t : TP) (k : Nat) : (t.at k).ren f = t.at k := rfl
@[simp] theorem at_refs (t : TP) (k : Nat) : (t.at k).refs = [] := rfl
def ptrsT (t : TP) (out : List Nat) : List AV := out.map t.at
def seenT (t : TP) (out : List Nat) : List (AV × AV) := out.map fun k => (t.at k, avb true)
@[simp] theorem renL_ptrsT (f : Nat → Option Nat) (t : TP) (out : List Nat) : AV.ren.renL f (ptrsT t out) = ptrsT t out := by
 rw [zph]
 simp [ptrsT]
@[simp] theorem seenT_ren (f : Nat → Option Nat) (t : TP) (out : List Nat) : List.map (fun p => (AV.ren f p.1, AV.ren f p.2)) (seenT t out) = seenT t out := by
 simp [seenT, AV.ren]
@[simp] theorem refs_ptrsT (t : TP) (out : List Nat) : AV.refs.refsL (ptrsT t out) = [] := by
 unfold ptrsT
 induction out with
 | nil => rfl
 | cons x r ih => simp only [List.map_cons, AV.refs.refsL, ih, at_refs]; rfl
@[simp] theorem refs_seenT1 (t : TP) (out : List Nat) : AV.refs.refsL (List.map (fun x => x.1) (seenT t out)) = [] := by
 unfold seenT
 induction out with
 | nil => rfl
 | cons x r ih => simp only [List.map_cons, AV.refs.refsL, ih, at_refs]; rfl
@[simp] theorem refs_seenT2 (t : TP) (out : List Nat) : AV.refs.refsL (List.map (fun x => x.2) (seenT t out)) = [] := by
 unfold seenT
 induction out with
 | nil => rfl
 | cons x r ih => simp only [List.map_cons, AV.refs.refsL, ih, AV.refs]; rfl
theorem zia (m : Mem) (t : TP) (k x : Nat) : keyEq m 3 (t.at k) (t.at x) = some (decide (k = x)) := by
 have h : (t.a + k * 5 == t.a + x * 5) = decide (k = x) := by
  by_cases h : k = x
  ·subst h; simp
  ·simp [h]
   omega
 simp [keyEq, TP.at, h]
theorem zfy (t : TP) (k : Nat) : ∀ (out : List Nat) (i : Nat),
  (k ∉ out ∧ ∀ m : Mem, findK m 3 (t.at k) (seenT t out) i = some none) ∨
  (k ∈ out ∧ ∃ j, (∀ m : Mem, findK m 3 (t.at k) (seenT t out) i = some (some (i + j))) ∧ (seenT t out)[j]? = some (t.at k, avb true))
 | [], i => .inl ⟨by simp, fun _ => rfl⟩
 | x :: r, i => by
  by_cases h : k = x
  ·subst h
   exact .inr ⟨by simp, 0, fun m => by simp [seenT, findK, zia], rfl⟩
  ·have hf : ∀ m : Mem, findK m 3 (t.at k) (seenT t (x :: r)) i = findK m 3 (t.at k) (seenT t r) (i + 1) := fun m => by simp [seenT, findK, zia, h]
   rcases zfy t k r (i + 1) with ⟨h1, h2⟩ | ⟨h1, j, h2, h3⟩
   ·exact .inl ⟨by simp [h, h1], fun m => by rw [hf, h2]⟩
   ·refine .inr ⟨by simp [h1], j + 1, fun m => ?_, h3⟩
    rw [hf, h2]; congr 2; omega
theorem zrw (t : TP) (k : Nat) (out : List Nat) : seenT t out ++ [(t.at k, avb true)] = seenT t (out ++ [k]) := by simp [seenT]
theorem zn5 (t : TP) (k : Nat) (out : List Nat) : ptrsT t out ++ [t.at k] = ptrsT t (out ++ [k]) := by simp [ptrsT]
theorem zdg (t : TP) (out : List Nat) : cut (ptrsT t out) 0 out.length = some (ptrsT t out) := zdb _ (by simp [ptrsT])
section
variable {code : Nat → Option XFun} {ext : Calls'}
def leadT (t : TP) : Option Nat → AV
 | some k => t.at k
 | none => .imm (.val (.pointer none))
structure StoreT (code : Nat → Option XFun) (ext : Calls') (sA : AV) (t : TP) (S : List Obj) : Prop where
 refs : sA.refs = []
 ren : ∀ f, sA.ren f = sA
 box : AV.cells sA = some [sA]
 lead : ∀ v : Val, (tInt .i64).wf v.n → callW code ext 651 [sA, .agg [.imm (.val (.int .u8 v.k)), int64 v.n]] [] = some (leadT t (leadsOf S v), [])
 obj : ∀ (k : Nat) (o : Obj), S[k]? = some o → cut t.row (t.off + k * 5) 5 = some [.val (.int .u8 o.k), .val (.string o.s), o.l.iv, .val (.int .i64 o.room), .val (.int .i64 o.fn)]
theorem ziz (h : code 651 = some x651) (t : TP) (S : List Obj) (cap : Option Nat) (hr : Reads tObj (.slice t.row t.off S.length cap) S) (v : Val) (hv : (tInt .i64).wf v.n) :
  callW code ext 651 [t.sl S.length cap, .agg [.imm (.val (.int .u8 v.k)), int64 v.n]] [] = some (leadT t (leadsOf S v), []) := by
 have hb := hr.2.1
 rw [zbs code ext h]
 unfold leadsOf TP.sl
 by_cases c1 : v.k < 3
 ·simp -implicitDefEqProofs [x651, c1, leadT]
 by_cases c2 : 7 < v.k
 ·simp -implicitDefEqProofs [x651, c1, c2, leadT]
 by_cases c3 : v.n < 1
 ·simp -implicitDefEqProofs [x651, c1, c2, c3, leadT]
 by_cases c4 : (S.length : Int) < v.n
 ·simp -implicitDefEqProofs [x651, c1, c2, c3, c4, leadT, lenOf]
 obtain ⟨vk, vn⟩ := v
 simp only at c1 c2 c3 c4 ⊢
 obtain ⟨p, rfl⟩ : ∃ p : Nat, vn = (p : Int) + 1 := ⟨(vn - 1).toNat, by omega⟩
 have hlt : p < S.length := by omega
 have hi := List.getElem?_eq_getElem hlt
 have ep : ((p : Int) + 1 - 1).toNat = p := by omega
 rw [if_neg c1, if_neg c2, if_neg c3, if_neg c4, ep, hi]
 obtain ⟨row', off', cap', he, _, _, hget⟩ := zo7 hr hi
 cases he
 generalize S[p] = o at hget
 simp only [tObj] at hget
 have g0 : t.row[t.off + p * 5]? = some (.val (.int .u8 o.k)) := zdd hget 0 (by omega)
 have e1 : IntKind.wrap .i64 (p : Int) = p := wrapI64 (by omega) (by omega)
 by_cases c5 : o.k = vk
 ·simp -implicitDefEqProofs [x651, c1, c2, c3, c4, e1, g0, c5, hlt, leadT, lenOf, TP.at]
 ·simp -implicitDefEqProofs [x651, c1, c2, c3, c4, e1, g0, c5, hlt, leadT, lenOf, TP.at]
theorem zix (h : code 651 = some x651) (t : TP) {sv : IV} (hr : Reads tObj sv []) (v : Val) (hv : (tInt .i64).wf v.n) :
  callW code ext 651 [.imm sv, .agg [.imm (.val (.int .u8 v.k)), int64 v.n]] [] = some (leadT t (leadsOf [] v), []) := by
 have hlen : lenOf (.imm sv) = some 0 := zo6 hr
 have hn : leadsOf [] v = none := by
  cases hq : leadsOf [] v with
  | none => rfl
  | some k => exact absurd (ziy hq).1 (by simp)
 rw [hn, zbs code ext h]
 by_cases c1 : v.k < 3
 ·simp -implicitDefEqProofs [x651, c1, leadT]
 by_cases c2 : 7 < v.k
 ·simp -implicitDefEqProofs [x651, c1, c2, leadT]
 by_cases c3 : v.n < 1
 ·simp -implicitDefEqProofs [x651, c1, c2, c3, leadT]
 have c4 : (0 : Int) < v.n := by omega
 simp -implicitDefEqProofs [x651, c1, c2, c3, c4, leadT, hlen]
theorem zsz (h : code 651 = some x651) (t : TP) (S : List Obj) (cap : Option Nat) (hr : Reads tObj (.slice t.row t.off S.length cap) S) : StoreT code ext (t.sl S.length cap) t S :=
 ⟨rfl, fun _ => rfl, rfl, fun v hv => ziz h t S cap hr v hv, fun k o ho => by
  obtain ⟨row', off', cap', he, _, _, hget⟩ := zo7 hr ho
  cases he
  exact hget⟩
theorem zsy (h : code 651 = some x651) (t : TP) {sv : IV} (hr : Reads tObj sv []) : StoreT code ext (.imm sv) t [] :=
 ⟨rfl, fun _ => rfl, rfl, fun v hv => zix h t hr v hv, fun k o ho => by simp at ho⟩
end
end Go.EX


namespace Go.EX
section
variable {code : Nat → Option XFun} {ext : Calls'}
def addBaseT (sA : AV) (t : TP) (out : List Nat) (o : AV) : Mem := [.rich [sA], .rich [.omap 3], .rich [o], .map (seenT t out)]
abbrev addEnvT (lv : IV) (n i : Int) : Env := [(1, .optr 0 0), (2, .optr 1 0), (3, .optr 2 0), (8, .imm lv), (9, int64 n), (10, int64 i)]
theorem zag {sA : AV} {t : TP} {T : List Obj} (hT : StoreT code ext sA t T) (row : List IV) (off : Nat) (cap : Option Nat) (l : List Val) (hl : Reads tVal (.slice row off l.length cap) l) (out : List Nat) (i : Nat) (v : Val) (hv : l[i]? = some v)
  (hold : leadsOf T v = none ∨ ∃ k, leadsOf T v = some k ∧ k ∈ out) (k : Nat) (o : AV) (tail : Mem) (hk : (k = 4 ∧ ((out = [] ∧ o = nilS ∧ tail = []) ∨ (o = .osl 4 0 1 out.length none ∧ tail = [.rich (ptrsT t out)]))) ∨ (k = 5 ∧ ((o = .osl 4 0 1 out.length none ∧ tail = [.rich (ptrsT t out)]) ∨ (o = .osl 5 0 1 out.length none ∧ tail = [.dead, .rich (ptrsT t out)])))) :
  ∃ s', den code ext x655L1 ⟨k, addEnvT (.slice row off l.length cap) l.length i, addBaseT sA t out o ++ tail⟩ = some (.normal, s') ∧ s'.tidy [1, 2, 3, 8, 9, 10] = ⟨k, addEnvT (.slice row off l.length cap) l.length ((i : Int) + 1), addBaseT sA t out o ++ tail⟩ := by
 have hlt := (List.getElem?_eq_some_iff.1 hv).1
 obtain ⟨row', off', cap', he, hc, hcut, hget⟩ := zo7 hl hv
 cases he
 simp only [tVal] at hget
 have hb2 := hl.2.1
 have hw := (hl.1 v (List.mem_of_getElem? hv)).2
 have e1 : IntKind.wrap .i64 ((i : Int) + 1) = (i : Int) + 1 := wrapI64 (by omega) (by omega)
 have hld := hT.lead v hw
 have hsr := hT.refs
 have hsn := hT.ren
 rcases hold with hn | ⟨q, hq, hm⟩
 ·rw [hn, leadT] at hld
  rcases hk with ⟨rfl, ⟨rfl, rfl, rfl⟩ | ⟨rfl, rfl⟩⟩ | ⟨rfl, ⟨rfl, rfl⟩ | ⟨rfl, rfl⟩⟩
  ·refine ⟨⟨4, addEnvT (.slice row off l.length cap) l.length ((i : Int) + 1), addBaseT sA t [] nilS ++ [.rich [.imm (.val (.int .u8 v.k)), int64 v.n]]⟩, ?_, ?_⟩
   ·simp -implicitDefEqProofs [x655L1, addBaseT, TP.at, hsr, hsn, hlt, hget, hld, e1]
   ·simp -implicitDefEqProofs [addBaseT, TP.at, hsr, hsn]
  ·refine ⟨⟨4, addEnvT (.slice row off l.length cap) l.length ((i : Int) + 1), addBaseT sA t out (.osl 4 0 1 out.length none) ++ [.rich (ptrsT t out), .rich [.imm (.val (.int .u8 v.k)), int64 v.n]]⟩, ?_, ?_⟩
   ·simp -implicitDefEqProofs [x655L1, addBaseT, TP.at, hsr, hsn, hlt, hget, hld, e1]
   ·simp -implicitDefEqProofs [addBaseT, TP.at, hsr, hsn]
  ·refine ⟨⟨5, addEnvT (.slice row off l.length cap) l.length ((i : Int) + 1), addBaseT sA t out (.osl 4 0 1 out.length none) ++ [.rich (ptrsT t out), .rich [.imm (.val (.int .u8 v.k)), int64 v.n]]⟩, ?_, ?_⟩
   ·simp -implicitDefEqProofs [x655L1, addBaseT, TP.at, hsr, hsn, hlt, hget, hld, e1]
   ·simp -implicitDefEqProofs [addBaseT, TP.at, hsr, hsn]
  ·refine ⟨⟨5, addEnvT (.slice row off l.length cap) l.length ((i : Int) + 1), addBaseT sA t out (.osl 5 0 1 out.length none) ++ [.dead, .rich (ptrsT t out), .rich [.imm (.val (.int .u8 v.k)), int64 v.n]]⟩, ?_, ?_⟩
   ·simp -implicitDefEqProofs [x655L1, addBaseT, TP.at, hsr, hsn, hlt, hget, hld, e1]
   ·simp -implicitDefEqProofs [addBaseT, TP.at, hsr, hsn]
 ·rw [hq, leadT] at hld
  rcases zfy t q out 0 with ⟨h1, _⟩ | ⟨_, j, hf, hj⟩
  ·exact absurd hm h1
  simp only [Nat.zero_add] at hf
  simp only [TP.at] at hld hf hj
  rcases hk with ⟨rfl, ⟨rfl, rfl, rfl⟩ | ⟨rfl, rfl⟩⟩ | ⟨rfl, ⟨rfl, rfl⟩ | ⟨rfl, rfl⟩⟩
  ·cases hm
  ·refine ⟨⟨4, addEnvT (.slice row off l.length cap) l.length ((i : Int) + 1), addBaseT sA t out (.osl 4 0 1 out.length none) ++ [.rich (ptrsT t out), .rich [.imm (.val (.int .u8 v.k)), int64 v.n]]⟩, ?_, ?_⟩
   ·simp -implicitDefEqProofs [x655L1, addBaseT, TP.at, hsr, hsn, hlt, hget, hld, e1, hf, hj]
   ·simp -implicitDefEqProofs [addBaseT, TP.at, hsr, hsn]
  ·refine ⟨⟨5, addEnvT (.slice row off l.length cap) l.length ((i : Int) + 1), addBaseT sA t out (.osl 4 0 1 out.length none) ++ [.rich (ptrsT t out), .rich [.imm (.val (.int .u8 v.k)), int64 v.n]]⟩, ?_, ?_⟩
   ·simp -implicitDefEqProofs [x655L1, addBaseT, TP.at, hsr, hsn, hlt, hget, hld, e1, hf, hj]
   ·simp -implicitDefEqProofs [addBaseT, TP.at, hsr, hsn]
  ·refine ⟨⟨5, addEnvT (.slice row off l.length cap) l.length ((i : Int) + 1), addBaseT sA t out (.osl 5 0 1 out.length none) ++ [.dead, .rich (ptrsT t out), .rich [.imm (.val (.int .u8 v.k)), int64 v.n]]⟩, ?_, ?_⟩
   ·simp -implicitDefEqProofs [x655L1, addBaseT, TP.at, hsr, hsn, hlt, hget, hld, e1, hf, hj]
   ·simp -implicitDefEqProofs [addBaseT, TP.at, hsr, hsn]
theorem zaf {sA : AV} {t : TP} {T : List Obj} (hT : StoreT code ext sA t T) (row : List IV) (off : Nat) (cap : Option Nat) (l : List Val) (hl : Reads tVal (.slice row off l.length cap) l) (out : List Nat) (hbo : out.length ≤ 1048576) (i : Nat) (v : Val) (hv : l[i]? = some v)
  (q : Nat) (hq : leadsOf T v = some q) (hm : q ∉ out) (k : Nat) (o : AV) (tail : Mem) (hk : (k = 4 ∧ ((out = [] ∧ o = nilS ∧ tail = []) ∨ (o = .osl 4 0 1 out.length none ∧ tail = [.rich (ptrsT t out)]))) ∨ (k = 5 ∧ ((o = .osl 4 0 1 out.length none ∧ tail = [.rich (ptrsT t out)]) ∨ (o = .osl 5 0 1 out.length none ∧ tail = [.dead, .rich (ptrsT t out)])))) :
  ∃ s', den code ext x655L1 ⟨k, addEnvT (.slice row off l.length cap) l.length i, addBaseT sA t out o ++ tail⟩ = some (.normal, s') ∧
   s'.tidy [1, 2, 3, 8, 9, 10] = ⟨k, addEnvT (.slice row off l.length cap) l.length ((i : Int) + 1), addBaseT sA t (out ++ [q]) (.osl k 0 1 (out.length + 1) none) ++ (if k = 4 then [] else [.dead]) ++ [.rich (ptrsT t (out ++ [q]))]⟩ := by
 have hlt := (List.getElem?_eq_some_iff.1 hv).1
 obtain ⟨row', off', cap', he, hc, hcut, hget⟩ := zo7 hl hv
 cases he
 simp only [tVal] at hget
 have hb2 := hl.2.1
 have hw := (hl.1 v (List.mem_of_getElem? hv)).2
 have e1 : IntKind.wrap .i64 ((i : Int) + 1) = (i : Int) + 1 := wrapI64 (by omega) (by omega)
 have hld := hT.lead v hw
 have hsr := hT.refs
 have hsn := hT.ren
 rw [hq, leadT] at hld
 rcases zfy t q out 0 with ⟨_, hf⟩ | ⟨h1, _⟩
 case inr => exact absurd h1 hm
 have hcp := zdg t out
 have hs1 := zrw t q out
 have hs2 := zn5 t q out
 have hbd : (out.length + 1) * 8 ≤ 140737488355328 := by omega
 have h0 : seenT t [] = [] := rfl
 have h0' : [(t.at q, avb true)] = seenT t [q] := rfl
 have h0'' : [t.at q] = ptrsT t [q] := rfl
 have hf0 : ∀ (m : Mem) (x : AV), findK m 3 x [] 0 = some none := fun _ _ => rfl
 simp only [TP.at] at hld hf hs1 hs2 h0' h0''
 rcases hk with ⟨rfl, ⟨rfl, rfl, rfl⟩ | ⟨rfl, rfl⟩⟩ | ⟨rfl, ⟨rfl, rfl⟩ | ⟨rfl, rfl⟩⟩
 ·refine ⟨⟨4, addEnvT (.slice row off l.length cap) l.length ((i : Int) + 1), addBaseT sA t [q] (.osl 6 0 1 1 none) ++ [.rich [.imm (.val (.int .u8 v.k)), int64 v.n], .rich [t.at q], .rich [t.at q]]⟩, ?_, ?_⟩
  ·simp -implicitDefEqProofs [x655L1, addBaseT, TP.at, hsr, hsn, hlt, hget, hld, e1, h0, hf0, exAppendX, exAppend, exAppendR, elems, elemsR, h0']
  ·simp -implicitDefEqProofs [addBaseT, TP.at, hsr, hsn, ptrsT]
 ·refine ⟨⟨4, addEnvT (.slice row off l.length cap) l.length ((i : Int) + 1), addBaseT sA t (out ++ [q]) (.osl 7 0 1 (out.length + 1) none) ++ [.dead, .rich [.imm (.val (.int .u8 v.k)), int64 v.n], .rich [t.at q], .rich (ptrsT t (out ++ [q]))]⟩, ?_, ?_⟩
  ·simp -implicitDefEqProofs [x655L1, addBaseT, TP.at, hsr, hsn, hlt, hget, hld, e1, hf, hs1, hs2, hcp, hbd, exAppendX, exAppend, exAppendR, elems, elemsR]
  ·simp -implicitDefEqProofs [addBaseT, TP.at, hsr, hsn]
 ·refine ⟨⟨5, addEnvT (.slice row off l.length cap) l.length ((i : Int) + 1), addBaseT sA t (out ++ [q]) (.osl 7 0 1 (out.length + 1) none) ++ [.dead, .rich [.imm (.val (.int .u8 v.k)), int64 v.n], .rich [t.at q], .rich (ptrsT t (out ++ [q]))]⟩, ?_, ?_⟩
  ·simp -implicitDefEqProofs [x655L1, addBaseT, TP.at, hsr, hsn, hlt, hget, hld, e1, hf, hs1, hs2, hcp, hbd, exAppendX, exAppend, exAppendR, elems, elemsR]
  ·simp -implicitDefEqProofs [addBaseT, TP.at, hsr, hsn]
 ·refine ⟨⟨5, addEnvT (.slice row off l.length cap) l.length ((i : Int) + 1), addBaseT sA t (out ++ [q]) (.osl 8 0 1 (out.length + 1) none) ++ [.dead, .dead, .rich [.imm (.val (.int .u8 v.k)), int64 v.n], .rich [t.at q], .rich (ptrsT t (out ++ [q]))]⟩, ?_, ?_⟩
  ·simp -implicitDefEqProofs [x655L1, addBaseT, TP.at, hsr, hsn, hlt, hget, hld, e1, hf, hs1, hs2, hcp, hbd, exAppendX, exAppend, exAppendR, elems, elemsR]
  ·simp -implicitDefEqProofs [addBaseT, TP.at, hsr, hsn]
end
end Go.EX


namespace Go.EX
section
variable {code : Nat → Option XFun} {ext : Calls'}
def AddShapeT (t : TP) (k : Nat) (out : List Nat) (o : AV) (tail : Mem) : Prop :=
 (k = 4 ∧ ((out = [] ∧ o = nilS ∧ tail = []) ∨ (o = .osl 4 0 1 out.length none ∧ tail = [.rich (ptrsT t out)]))) ∨ (k = 5 ∧ ((o = .osl 4 0 1 out.length none ∧ tail = [.rich (ptrsT t out)]) ∨ (o = .osl 5 0 1 out.length none ∧ tail = [.dead, .rich (ptrsT t out)])))
theorem zr8 (n : Nat) (out : List Nat) (h : out.Nodup) (hl : ∀ k ∈ out, k < n) : out.length ≤ n := by
 have hp : out.Perm ((List.range n).filter fun k => decide (k ∈ out)) := (List.perm_ext_iff_of_nodup h (List.nodup_range.filter _)).2 fun k => by
  rw [List.mem_filter, List.mem_range]
  exact ⟨fun hk => ⟨hl k hk, by simpa using hk⟩, fun hk => by simpa using hk.2⟩
 rw [hp.length_eq]
 exact Nat.le_trans (List.length_filter_le _ _) (by simp)
theorem zae {sA : AV} {t : TP} {T : List Obj} (hT : StoreT code ext sA t T) (hb : T.length ≤ 1048576) (lv : IV) (l : List Val) (hl : Reads tVal lv l) (k : Nat) (out : List Nat) (o : AV) (tail : Mem) (hsh : AddShapeT t k out o tail) (hnd : out.Nodup) (hlt : ∀ q ∈ out, q < T.length) {s : St}
  (hst : s.tidy [1, 2, 3, 8, 9, 10] = ⟨k, addEnvT lv l.length 0, addBaseT sA t out o ++ tail⟩) :
  ∃ e s', den code ext (.loop [1, 2, 3, 8, 9, 10] x655L1) s = some (e, s') ∧ e ≠ .normal ∧
   (e = .exit 0 ∧ ∃ o' tail', AddShapeT t k (addAll T out l) o' tail' ∧ (addAll T out l = out → o' = o ∧ tail' = tail) ∧ (addAll T out l ≠ out → o' = .osl k 0 1 (addAll T out l).length none) ∧
    s' = ⟨k, addEnvT lv l.length l.length ++ [(11, avb false)], addBaseT sA t (addAll T out l) o' ++ tail'⟩) := by
 refine zjt (fun n s => ∃ (i : Nat) (out1 : List Nat) (o1 : AV) (tail1 : Mem), i + n = l.length ∧ addAll T out l = addAll T out1 (l.drop i) ∧ AddShapeT t k out1 o1 tail1 ∧ out1.Nodup ∧ (∀ q ∈ out1, q < T.length) ∧
  (∃ r, out1 = out ++ r ∧ (r = [] → o1 = o ∧ tail1 = tail) ∧ (r ≠ [] → o1 = .osl k 0 1 out1.length none)) ∧ s.tidy [1, 2, 3, 8, 9, 10] = ⟨k, addEnvT lv l.length i, addBaseT sA t out1 o1 ++ tail1⟩) _ ?_ l.length _ ⟨0, out, o, tail, by simp, by simp, hsh, hnd, hlt, ⟨[], by simp, fun _ => ⟨rfl, rfl⟩, fun h => absurd rfl h⟩, hst⟩
 clear hst hsh hnd hlt s
 rintro n s ⟨i, out1, o1, tail1, hi, ha, hsh, hnd, hlt, ⟨r, hr, hr1, hr2⟩, hst⟩
 rw [hst]
 by_cases hil : i < l.length
 ·have hv := List.getElem?_eq_getElem hil
  rw [List.drop_eq_getElem_cons hil, addAll] at ha
  obtain ⟨row, off, cap, rfl, _, _, _⟩ := zo7 hl hv
  generalize l[i] = v at hv ha
  cases hq : leadsOf T v with
  | none =>
   rw [hq] at ha
   obtain ⟨s', g1, g2⟩ := zag (code := code) (ext := ext) hT row off cap l hl out1 i v hv (.inl hq) k o1 tail1 hsh
   exact ⟨.normal, s', g1, .inl ⟨rfl, n - 1, by omega, i + 1, out1, o1, tail1, by omega, ha, hsh, hnd, hlt, ⟨r, hr, hr1, hr2⟩, by rw [g2]; rfl⟩⟩
  | some q =>
   rw [hq] at ha
   by_cases hm : q ∈ out1
   ·dsimp only at ha
    rw [if_pos hm] at ha
    obtain ⟨s', g1, g2⟩ := zag (code := code) (ext := ext) hT row off cap l hl out1 i v hv (.inr ⟨q, hq, hm⟩) k o1 tail1 hsh
    exact ⟨.normal, s', g1, .inl ⟨rfl, n - 1, by omega, i + 1, out1, o1, tail1, by omega, ha, hsh, hnd, hlt, ⟨r, hr, hr1, hr2⟩, by rw [g2]; rfl⟩⟩
   ·dsimp only at ha
    rw [if_neg hm] at ha
    have hlen := zr8 T.length out1 hnd hlt
    obtain ⟨s', g1, g2⟩ := zaf (code := code) (ext := ext) hT row off cap l hl out1 (by omega) i v hv q hq hm k o1 tail1 hsh
    refine ⟨.normal, s', g1, .inl ⟨rfl, n - 1, by omega, i + 1, out1 ++ [q], .osl k 0 1 (out1.length + 1) none, (if k = 4 then [] else [.dead]) ++ [.rich (ptrsT t (out1 ++ [q]))], by omega, ha, ?_, ?_, ?_, ⟨r ++ [q], by rw [hr]; simp, fun h => by simp at h, fun _ => by simp⟩, by rw [g2, List.append_assoc]; rfl⟩⟩
    ·rcases hsh with ⟨rfl, _⟩ | ⟨rfl, _⟩
     ·exact .inl ⟨rfl, .inr ⟨by simp, by simp⟩⟩
     ·exact .inr ⟨rfl, .inr ⟨by simp, by simp⟩⟩
    ·rw [List.nodup_append]
     exact ⟨hnd, by simp, fun a ha' b hb' => by simp at hb'; subst hb'; exact fun e => hm (e ▸ ha')⟩
    ·intro p hp
     rw [List.mem_append, List.mem_singleton] at hp
     rcases hp with hp | rfl
     ·exact hlt p hp
     ·exact (ziy hq).1
 ·have : i = l.length := by omega
  subst this
  rw [List.drop_eq_nil_of_le (Nat.le_refl _), addAll] at ha
  refine ⟨.exit 0, ⟨k, addEnvT lv l.length l.length ++ [(11, avb false)], addBaseT sA t (addAll T out l) o1 ++ tail1⟩, ?_, .inr ⟨by simp, rfl, o1, tail1, by rw [ha]; exact hsh, fun he => hr1 ?_, fun he => ?_, rfl⟩⟩
  ·rw [ha]
   simp -implicitDefEqProofs [x655L1]
  ·rw [ha, hr] at he
   simpa using he
  ·rw [ha]
   refine hr2 fun e => he ?_
   rw [ha, hr, e]; simp
theorem zah {sA : AV} {t : TP} {T : List Obj} (hT : StoreT code ext sA t T) (h' : code 655 = some x655) (hb : T.length ≤ 1048576) (lv : IV) (l : List Val) (hl : Reads tVal lv l) (k : Nat) (out : List Nat) (o : AV) (tail : Mem) (hsh : AddShapeT t k out o tail) (hk : (addBaseT sA t out o ++ tail).length = k) (hnd : out.Nodup) (hlt : ∀ q ∈ out, q < T.length) :
  ∃ o' tail', AddShapeT t k (addAll T out l) o' tail' ∧ (addAll T out l = out → o' = o ∧ tail' = tail) ∧ (addAll T out l ≠ out → o' = .osl k 0 1 (addAll T out l).length none) ∧
   callW code ext 655 [.imm lv, .optr 0 0, .optr 1 0, .optr 2 0] (addBaseT sA t out o ++ tail) = some (.tup [], addBaseT sA t (addAll T out l) o' ++ tail') := by
 have hlen := zo6 hl
 have hsr := hT.refs
 have hsn := hT.ren
 obtain ⟨e, s', h1, _, rfl, o', tail', g1, g2, g3, rfl⟩ := zae (code := code) (ext := ext) hT hb lv l hl k out o tail hsh hnd hlt (s := ⟨k, addEnvT lv l.length 0, addBaseT sA t out o ++ tail⟩) (by
  rcases hsh with ⟨rfl, ⟨rfl, rfl, rfl⟩ | ⟨rfl, rfl⟩⟩ | ⟨rfl, ⟨rfl, rfl⟩ | ⟨rfl, rfl⟩⟩ <;> simp -implicitDefEqProofs [addBaseT, hsr, hsn])
 refine ⟨o', tail', g1, g2, g3, ?_⟩
 rw [zbs code ext h', hk]
 generalize hM : addBaseT sA t out o ++ tail = M at h1 ⊢
 generalize hout : addAll T out l = out' at *
 clear hsh g2 g3 hk hM
 rcases g1 with ⟨rfl, ⟨rfl, rfl, rfl⟩ | ⟨rfl, rfl⟩⟩ | ⟨rfl, ⟨rfl, rfl⟩ | ⟨rfl, rfl⟩⟩
 ·simp -implicitDefEqProofs [x655, hlen, h1, addBaseT, hsr, hsn]
 ·simp -implicitDefEqProofs [x655, hlen, h1, addBaseT, hsr, hsn]
 ·simp -implicitDefEqProofs [x655, hlen, h1, addBaseT, hsr, hsn]
 ·simp -implicitDefEqProofs [x655, hlen, h1, addBaseT, hsr, hsn]
end
end Go.EX


namespace Go.EX
theorem zb0 (n : Nat) : AV.cells (.omap n) = some [.omap n] := rfl
theorem zb2 (i o z l : Nat) (c : Option Nat) : AV.cells (.osl i o z l c) = some [.osl i o z l c] := rfl
theorem zbz (x : IV) : AV.cells (.imm x) = some [.imm x] := rfl
section
variable {code : Nat → Option XFun} {ext : Calls'}
abbrev reachEnvT (i : Int) : Env := [(4, .optr 0 0), (6, .clo 655 [.optr 1 0, .optr 2 0, .optr 0 0]), (7, int64 i)]
def reachMemT (sA : AV) (t : TP) (out : List Nat) : Mem := [.rich [.osl 3 0 1 out.length none], .rich [sA], .rich [.omap 4], .rich (ptrsT t out), .map (seenT t out)]
theorem zov {sA : AV} {t : TP} {T : List Obj} (hT : StoreT code ext sA t T) (h' : code 655 = some x655) (hb : T.length ≤ 1048576) (out : List Nat) (hnd : out.Nodup) (hlt : ∀ q ∈ out, q < T.length) (i k : Nat) (hk : out[i]? = some k) (o : Obj) (ho : T[k]? = some o) :
  ∃ s', den code ext x654L1 ⟨0, reachEnvT i, reachMemT sA t out⟩ = some (.normal, s') ∧ s'.tidy [4, 6, 7] = ⟨0, reachEnvT ((i : Int) + 1), reachMemT sA t (addAll T out o.l.xs)⟩ := by
 have hi := (List.getElem?_eq_some_iff.1 hk).1
 have hlen := zr8 T.length out hnd hlt
 have e1 : IntKind.wrap .i64 ((i : Int) + 1) = (i : Int) + 1 := wrapI64 (by omega) (by omega)
 have hp : (ptrsT t out)[i]? = some (t.at k) := by simp [ptrsT, hk]
 have hL : t.row[t.off + k * 5 + 2]? = some o.l.iv := zdd (hT.obj k o ho) 2 (by omega)
 have hsr := hT.refs
 have hsn := hT.ren
 obtain ⟨o', tail', g1, g2, g3, g4⟩ := zah (ext := ext) hT h' hb o.l.iv o.l.xs o.l.ok 5 out (.osl 4 0 1 out.length none) [.rich (ptrsT t out)] (.inr ⟨rfl, .inl ⟨rfl, rfl⟩⟩) rfl hnd hlt
 simp only [addBaseT, List.cons_append, List.nil_append] at g4
 by_cases he : addAll T out o.l.xs = out
 ·obtain ⟨rfl, rfl⟩ := g2 he
  rw [he] at g4 ⊢
  refine ⟨⟨0, reachEnvT ((i : Int) + 1), reachMemT sA t out⟩, ?_, ?_⟩
  ·simp -implicitDefEqProofs [x654L1, reachMemT, TP.at, hsr, hsn, hi, hp, hL, g4, e1]
  ·simp -implicitDefEqProofs [reachMemT, hsr, hsn]
 ·have ho' := g3 he
  subst ho'
  generalize addAll T out o.l.xs = out' at *
  obtain rfl : tail' = [.dead, .rich (ptrsT t out')] := by
   rcases g1 with ⟨h5, _⟩ | ⟨_, ⟨h6, _⟩ | ⟨_, h7⟩⟩
   ·cases h5
   ·cases h6
   ·exact h7
  refine ⟨⟨0, reachEnvT ((i : Int) + 1), [.rich [.osl 5 0 1 out'.length none], .rich [sA], .rich [.omap 4], .dead, .map (seenT t out'), .rich (ptrsT t out')]⟩, ?_, ?_⟩
  ·simp -implicitDefEqProofs [x654L1, reachMemT, TP.at, hsr, hsn, hi, hp, hL, g4, e1]
  ·simp -implicitDefEqProofs [reachMemT, hsr, hsn]
def reachOutT (t : TP) (out : List Nat) : AV × Mem := if out = [] then (nilS, []) else (.osl 0 0 1 out.length none, [.rich (ptrsT t out)])
theorem zou {sA : AV} {t : TP} {T : List Obj} (hT : StoreT code ext sA t T) (h' : code 655 = some x655) (h2 : code 654 = some x654) (hb : T.length ≤ 1048576) {rv : IV} {roots : List Val} (hr : Reads tVal rv roots) :
  ∃ out, Grown T roots out out.length ∧ callW code ext 654 [sA, .imm rv] [] = some (reachOutT t out) := by
 obtain ⟨o', tail', g1, g2, g3, g4⟩ := zah (ext := ext) hT h' hb rv roots hr 4 [] nilS [] (.inl ⟨rfl, .inl ⟨rfl, rfl, rfl⟩⟩) rfl (by simp) (by simp)
 have hsr := hT.refs
 have hsn := hT.ren
 have hs0 : seenT t [] = [] := rfl
 have hG := Grown.start T roots
 simp only [addBaseT, List.cons_append, List.nil_append, List.append_nil, hs0] at g4
 rw [zbs code ext h2]
 by_cases he : addAll T [] roots = []
 ·rw [he] at g4 hG g1
  refine ⟨[], hG, ?_⟩
  rcases g1 with ⟨_, ⟨_, rfl, rfl⟩ | ⟨rfl, rfl⟩⟩ | ⟨h6, _⟩
  ·have hl : den code ext (.loop [4, 6, 7] x654L1) ⟨0, [(4, .optr 1 0), (6, .clo 655 [.optr 0 0, .optr 3 0, .optr 1 0]), (7, int64 0)], [.rich [sA], .rich [nilS], .map [], .rich [.omap 2]]⟩ =
     some (.exit 0, ⟨0, [(4, .optr 0 0), (6, .clo 655 [.optr 1 0, .optr 2 0, .optr 0 0]), (7, int64 0), (16, avb false)], [.rich [nilS], .rich [sA], .rich [.omap 3], .map []]⟩) := by
    rw [zdn]
    simp -implicitDefEqProofs [x654L1, hsr, hsn]
   simp -implicitDefEqProofs [x654, hsr, hsn, hT.box, -AV.cells, zb0, zb2, zbz, g4, hs0, hl, reachOutT]
  ·have hn := (g2 he).1
   cases hn
  ·cases h6
 ·have ho' := g3 he
  subst ho'
  generalize hout : addAll T [] roots = out0 at *
  obtain rfl : tail' = [.rich (ptrsT t out0)] := by
   rcases g1 with ⟨_, ⟨h5, _⟩ | ⟨_, h5⟩⟩ | ⟨h6, _⟩
   ·exact absurd h5 he
   ·exact h5
   ·cases h6
  have loop : ∀ s : St, s.tidy [4, 6, 7] = ⟨0, reachEnvT 0, reachMemT sA t out0⟩ → ∃ e s', den code ext (.loop [4, 6, 7] x654L1) s = some (e, s') ∧ e ≠ .normal ∧
    (e = .exit 0 ∧ ∃ out, out ≠ [] ∧ Grown T roots out out.length ∧ s' = ⟨0, reachEnvT out.length ++ [(16, avb false)], reachMemT sA t out⟩) := by
   intro s hst
   refine zjt (fun n s => ∃ (i : Nat) (out : List Nat), i ≤ out.length ∧ out ≠ [] ∧ n + i = T.length ∧ Grown T roots out i ∧ s.tidy [4, 6, 7] = ⟨0, reachEnvT i, reachMemT sA t out⟩) _ ?_ T.length s ⟨0, out0, by omega, he, by omega, hG, hst⟩
   clear hst hG hout he g1 g2 g3 g4
   rintro n s ⟨i, out, hio, hne, hn, hG, hst⟩
   rw [hst]
   have hlt : ∀ q ∈ out, q < T.length := fun q hq => (hG.reach q hq).lt
   by_cases hi : i < out.length
   ·have hk := List.getElem?_eq_getElem hi
    have hko := hlt _ (List.getElem_mem hi)
    obtain ⟨s', q1, q2⟩ := zov (code := code) (ext := ext) hT h' hb out hG.nodup hlt i _ hk _ (List.getElem?_eq_getElem hko)
    have hG' := hG.next hk (List.getElem?_eq_getElem hko)
    have hs := hG.short
    obtain ⟨r, hr⟩ := zad T T[out[i]].l.xs out
    refine ⟨.normal, s', q1, .inl ⟨rfl, n - 1, by omega, i + 1, _, ?_, ?_, by omega, hG', by rw [q2]; rfl⟩⟩
    ·rw [hr, List.length_append]; omega
    ·rw [hr]; intro e; exact hne (List.append_eq_nil_iff.1 e).1
   ·have : i = out.length := by omega
    subst this
    refine ⟨.exit 0, ⟨0, reachEnvT out.length ++ [(16, avb false)], reachMemT sA t out⟩, ?_, .inr ⟨by simp, rfl, out, hne, hG, rfl⟩⟩
    simp -implicitDefEqProofs [x654L1, reachMemT, hsr, hsn]
  obtain ⟨e, s', l1, _, rfl, out, hne, hG', rfl⟩ := loop ⟨0, [(4, .optr 1 0), (6, .clo 655 [.optr 0 0, .optr 3 0, .optr 1 0]), (7, int64 0)], [.rich [sA], .rich [.osl 4 0 1 out0.length none], .map (seenT t out0), .rich [.omap 2], .rich (ptrsT t out0)]⟩ (by simp -implicitDefEqProofs [reachMemT, hsr, hsn])
  refine ⟨out, hG', ?_⟩
  simp -implicitDefEqProofs [x654, hsr, hsn, hT.box, -AV.cells, zb0, zb2, zbz, g4, l1, reachMemT, reachOutT, hne]
end
end Go.EX


namespace Go.EX
section
variable {code : Nat → Option XFun} {ext : Calls'}
theorem tdiv8T (n : Nat) : ((n : Int) + 7).tdiv 8 = (((n + 7) / 8 : Nat) : Int) := by
 have := Int.ofNat_tdiv (n + 7) 8
 simpa using this.symm
end
end Go.EX


namespace Go.EX
open Classical
noncomputable def wordsN (S : List Obj) (roots : List Val) : Nat := ((List.range S.length).map fun k => if Reach S roots k then wordsAt S k else 0).sum
theorem zs4 (p : Nat → Prop) (f : Nat → Nat) : ∀ l : List Nat, ((l.filter fun k => decide (p k)).map f).sum = (l.map fun k => if p k then f k else 0).sum
 | [] => rfl
 | x :: r => by
  have ih := zs4 p f r
  by_cases h : p x
  ·simp [h, ih]
  ·simp [h, ih]
theorem zvc {S : List Obj} {roots : List Val} {out : List Nat} (hg : Grown S roots out out.length) : (out.map (wordsAt S)).sum = wordsN S roots := by
 unfold wordsN
 rw [← zs4 (Reach S roots) (wordsAt S)]
 refine List.Perm.sum_nat (List.Perm.map _ ((List.perm_ext_iff_of_nodup hg.nodup (List.nodup_range.filter _)).2 fun k => ?_))
 rw [hg.done (Nat.le_refl _), List.mem_filter, List.mem_range]
 constructor
 ·intro h; exact ⟨h.lt, by simpa using h⟩
 ·rintro ⟨_, h⟩; simpa using h
theorem zo0 {S : List Obj} {a b : List Val} (h : ∀ v ∈ a, v ∈ b) {k : Nat} (hr : Reach S a k) : Reach S b k := by
 induction hr with
 | root hv hl => exact .root (h _ hv) hl
 | step _ ho hv hl ih => exact .step ih ho hv hl
theorem zs5 (f g : Nat → Nat) (h : ∀ k, f k ≤ g k) : ∀ l : List Nat, (l.map f).sum ≤ (l.map g).sum
 | [] => Nat.le_refl _
 | x :: r => by
  have := zs5 f g h r
  have := h x
  simp only [List.map_cons, List.sum_cons]
  omega
theorem zs6 (f g e : Nat → Nat) (h : ∀ k, f k ≤ g k + e k) : ∀ l : List Nat, (l.map f).sum ≤ (l.map g).sum + (l.map e).sum
 | [] => by simp
 | x :: r => by
  have := zs6 f g e h r
  have := h x
  simp only [List.map_cons, List.sum_cons]
  omega
end Go.EX


namespace Go.EX
theorem zb1 (i o : Nat) : AV.cells (.optr i o) = some [.optr i o] := rfl
theorem zby (l : List AV) : AV.cells (.agg l) = some l := rfl
theorem zb3 (b a : Nat) (x : IV) : AV.cells (.tag b a x) = some [.tag b a x] := rfl
def valOf (S : List Obj) (v : Val) : Bool := if v.k = 0 then decide (v.n = 0) else if v.k = 1 then decide (v.n = 0 ∨ v.n = 1) else if v.k = 2 then true else (leadsOf S v).isSome
def heldOf (S : List Obj) (l : List Val) (c : Bool) : Bool := l.all fun v => valOf S v && (decide (v.k = 7) == c)
def sAt (S : List Obj) (i : Nat) : ByteArray := match S[i]? with
 | some o => o.s
 | none => .empty
def sameOf (S : List Obj) (a b : Val) : Bool :=
 if a.k ≠ b.k then false else if a.k = 0 then true else if a.n = b.n then true else if a.k = 3 then
  match leadsOf S a, leadsOf S b with
  | some i, some j => decide (sAt S i = sAt S j)
  | _, _ => false
 else false
def KeysOk (S : List Obj) (l : List Val) : Prop := ∀ (i k : Nat) (a b : Val), i % 2 = 0 → k % 2 = 0 → k < i → l[i]? = some a → l[k]? = some b → sameOf S a b = false
def ObjOk (S : List Obj) (o : Obj) : Prop :=
 if o.k = 3 then o.s.size ≤ 4096 ∧ o.l.xs = [] ∧ o.room = 0 ∧ o.fn = 0
 else if o.k = 4 then o.s = .empty ∧ o.fn = 0 ∧ (o.l.xs.length : Int) ≤ 65536 ∧ (o.l.xs.length : Int) ≤ o.room ∧ o.room ≤ 262144 ∧ heldOf S o.l.xs false = true
 else if o.k = 5 then o.s = .empty ∧ o.fn = 0 ∧ (o.l.xs.length : Int).tmod 2 = 0 ∧ (o.l.xs.length : Int) ≤ 131072 ∧ (o.l.xs.length : Int) ≤ o.room ∧ o.room ≤ 262144 ∧ heldOf S o.l.xs false = true ∧ KeysOk S o.l.xs
 else if o.k = 6 then o.s = .empty ∧ o.room = 0 ∧ 0 ≤ o.fn ∧ o.fn < 256 ∧ heldOf S o.l.xs true = true
 else o.s = .empty ∧ o.room = 0 ∧ o.fn = 0 ∧ (o.l.xs.length : Int) = 1 ∧ heldOf S o.l.xs false = true
def CheckOk (S : List Obj) (v : Val) : Prop := valOf S v = true ∧ ∀ (k : Nat) (o : Obj), Reach S [v] k → S[k]? = some o → ObjOk S o
def badOf (T : List Obj) (o : Obj) (v : Val) : Bool := !valOf T v || (decide (v.k = 7) != decide (o.k = 6))
theorem zao (T : List Obj) (o : Obj) (l : List Val) : l.any (badOf T o) = !heldOf T l (decide (o.k = 6)) := by
 unfold heldOf
 induction l with
 | nil => rfl
 | cons v l ih =>
  rw [List.any_cons, List.all_cons, ih, Bool.not_and]
  congr 1
  unfold badOf
  cases valOf T v <;> cases decide (v.k = 7) <;> cases decide (o.k = 6) <;> rfl
def normOf (T : List Obj) (v : Val) : Int × Int × ByteArray :=
 if v.k = 3 then match leadsOf T v with
  | some i => (3, 0, sAt T i)
  | none => (v.k, v.n, .empty)
 else (v.k, v.n, .empty)
def keyAV (x : Int × Int × ByteArray) : AV := .agg [.imm (.val (.int .u8 x.1)), int64 x.2.1, .imm (.val (.string x.2.2))]
def normMap (acc : List (Int × Int × ByteArray)) : List (AV × AV) := acc.map fun x => (keyAV x, avb true)
open Classical in
noncomputable def addNorm (acc : List (Int × Int × ByteArray)) (x : Int × Int × ByteArray) : List (Int × Int × ByteArray) := if x ∈ acc then acc else acc ++ [x]
@[simp] theorem refs_norm1 (acc : List (Int × Int × ByteArray)) : AV.refs.refsL (List.map (fun x => x.1) (normMap acc)) = [] := by
 unfold normMap
 induction acc with
 | nil => rfl
 | cons x r ih =>
  have hk : (keyAV x).refs = [] := rfl
  simp only [List.map_cons, AV.refs.refsL, ih, hk, List.append_nil]
@[simp] theorem refs_norm2 (acc : List (Int × Int × ByteArray)) : AV.refs.refsL (List.map (fun x => x.2) (normMap acc)) = [] := by
 unfold normMap
 induction acc with
 | nil => rfl
 | cons x r ih => simp only [List.map_cons, AV.refs.refsL, ih, AV.refs]; rfl
@[simp] theorem norm_ren (f : Nat → Option Nat) (acc : List (Int × Int × ByteArray)) : List.map (fun p => (AV.ren f p.1, AV.ren f p.2)) (normMap acc) = normMap acc := by
 simp [normMap, keyAV, AV.ren, AV.ren.renL]
theorem key57 (x : Int × Int × ByteArray) : isKeyAV 57 (keyAV x) = true := by
 have e : isKeyAV 57 (keyAV x) = (sameCells [0, 0, 2] [.imm (.val (.int .u8 x.1)), int64 x.2.1, .imm (.val (.string x.2.2))] [.imm (.val (.int .u8 x.1)), int64 x.2.1, .imm (.val (.string x.2.2))]).isSome := rfl
 rw [e]; simp [sameCells]
theorem zbl (a b : ByteArray) : (a == b) = decide (a = b) := by rw [Go.beq_toListBytes, bytes_beq]
theorem keyEq57 (m : Mem) (x y : Int × Int × ByteArray) : keyEq m 57 (keyAV x) (keyAV y) = some (decide (x = y)) := by
 obtain ⟨a, b, c⟩ := x
 obtain ⟨a', b', c'⟩ := y
 have e : keyEq m 57 (keyAV (a, b, c)) (keyAV (a', b', c')) = sameCells [0, 0, 2] [.imm (.val (.int .u8 a)), int64 b, .imm (.val (.string c))] [.imm (.val (.int .u8 a')), int64 b', .imm (.val (.string c'))] := rfl
 rw [e]
 simp only [sameCells, if_true, Option.map_some, Bool.and_true, Option.some.injEq, zbl]
 by_cases h1 : a = a' <;> by_cases h2 : b = b' <;> by_cases h3 : c = c' <;> simp [h1, h2, h3]
theorem findK57 (x : Int × Int × ByteArray) : ∀ (acc : List (Int × Int × ByteArray)) (i : Nat),
  (x ∉ acc ∧ ∀ m, findK m 57 (keyAV x) (normMap acc) i = some none) ∨ (x ∈ acc ∧ ∃ j, (∀ m, findK m 57 (keyAV x) (normMap acc) i = some (some (i + j))) ∧ acc[j]? = some x)
 | [], i => .inl ⟨by simp, fun _ => rfl⟩
 | y :: r, i => by
  have hk := fun m => keyEq57 m x y
  by_cases h : x = y
  ·subst h
   refine .inr ⟨by simp, 0, fun m => ?_, rfl⟩
   simp only [normMap, List.map_cons, findK, hk, decide_true, Nat.add_zero]
  ·have hf : ∀ m, findK m 57 (keyAV x) (normMap (y :: r)) i = findK m 57 (keyAV x) (normMap r) (i + 1) := fun m => by simp only [normMap, List.map_cons, findK, hk, h, decide_false]
   rcases findK57 x r (i + 1) with ⟨h1, h2⟩ | ⟨h1, j, h2, h3⟩
   ·exact .inl ⟨by simp [h, h1], fun m => by rw [hf, h2]⟩
   ·refine .inr ⟨by simp [h1], j + 1, fun m => ?_, h3⟩
    rw [hf, h2]; congr 2; omega
theorem zlq (acc : List (Int × Int × ByteArray)) (j : Nat) (x : Int × Int × ByteArray) (h : acc[j]? = some x) : (normMap acc).set j (keyAV x, avb true) = normMap acc := by
 refine List.ext_getElem? fun i => ?_
 rw [List.getElem?_set]
 split
 ·rename_i hij; subst hij
  split
  ·simp [normMap, h]
  ·rename_i hl
   rw [List.getElem?_eq_none (by omega)]
 ·rfl
theorem zlr (acc : List (Int × Int × ByteArray)) (x : Int × Int × ByteArray) : normMap acc ++ [(keyAV x, avb true)] = normMap (acc ++ [x]) := by simp [normMap]
section
noncomputable def normsTo (T : List Obj) (l : List Val) : Nat → List (Int × Int × ByteArray)
 | 0 => []
 | i + 1 => if i % 2 = 0 then (match l[i]? with | some v => addNorm (normsTo T l i) (normOf T v) | none => normsTo T l i) else normsTo T l i
theorem zls (T : List Obj) (l : List Val) (i : Nat) (v : Val) (hi : i % 2 = 0) (hv : l[i]? = some v) : normsTo T l (i + 2) = addNorm (normsTo T l i) (normOf T v) := by
 rw [normsTo, if_neg (by omega), normsTo, if_pos hi, hv]
end
theorem zln (acc : List (Int × Int × ByteArray)) : (normMap acc).length = acc.length := by simp [normMap]
theorem zlo (T : List Obj) (v : Val) : (normOf T v).1 = v.k := by
 unfold normOf
 split
 ·split
  ·simp_all
  ·rfl
 ·rfl
theorem zlp (T : List Obj) (a b : Val) (ha : valOf T a = true) (hb : valOf T b = true) : normOf T a = normOf T b ↔ sameOf T a b = true := by
 unfold normOf sameOf
 by_cases hk : a.k = b.k
 ·rw [if_neg (show ¬ (a.k ≠ b.k) from fun c => c hk)]
  by_cases h0 : a.k = 0
  ·have hb0 : b.k = 0 := by omega
   unfold valOf at ha hb
   rw [if_pos h0] at ha
   rw [if_pos hb0] at hb
   simp at ha hb
   simp [h0, hb0, ha, hb]
  ·rw [if_neg h0]
   by_cases h3 : a.k = 3
   ·have hb3 : b.k = 3 := by omega
    rw [if_pos h3, if_pos hb3, if_pos h3]
    have ga : (leadsOf T a).isSome = true := by
     unfold valOf at ha
     rw [if_neg (by omega), if_neg (by omega), if_neg (by omega)] at ha; exact ha
    have gb : (leadsOf T b).isSome = true := by
     unfold valOf at hb
     rw [if_neg (by omega), if_neg (by omega), if_neg (by omega)] at hb; exact hb
    obtain ⟨i, hi⟩ := Option.isSome_iff_exists.1 ga
    obtain ⟨j, hj⟩ := Option.isSome_iff_exists.1 gb
    rw [hi, hj]
    by_cases hn : a.n = b.n
    ·rw [if_pos hn]
     have hij : i = j := by
      have h1 := (ziy hi).2.1
      have h2 := (ziy hj).2.1
      omega
     subst hij; simp
    ·rw [if_neg hn]; simp
   ·have hb3 : ¬ b.k = 3 := by omega
    rw [if_neg h3, if_neg hb3, if_neg h3]
    by_cases hn : a.n = b.n
    ·simp [hn, hk]
    ·simp [hn]
 ·rw [if_pos hk]
  refine ⟨fun h => ?_, fun h => by cases h⟩
  have h1 := zlo T a
  have h2 := zlo T b
  unfold normOf at h1 h2
  rw [h, h2] at h1
  exact absurd h1.symm hk
theorem zlu (T : List Obj) (l : List Val) : ∀ (j : Nat), 2 * j ≤ l.length → ∀ x, x ∈ normsTo T l (2 * j) ↔ ∃ p v, p < j ∧ l[2 * p]? = some v ∧ normOf T v = x
 | 0, _, x => by
  refine ⟨fun h => by simp [normsTo] at h, ?_⟩
  rintro ⟨p, v, h, _⟩; omega
 | j + 1, hj, x => by
  have hlt : 2 * j < l.length := by omega
  have ih := zlu T l j (by omega) x
  have hg := List.getElem?_eq_getElem hlt
  have e := zls T l (2 * j) l[2 * j] (by omega) hg
  have e' : 2 * (j + 1) = 2 * j + 2 := by omega
  rw [e', e]
  have hadd : x ∈ addNorm (normsTo T l (2 * j)) (normOf T l[2 * j]) ↔ x ∈ normsTo T l (2 * j) ∨ normOf T l[2 * j] = x := by
   unfold addNorm
   split
   ·rename_i hm
    refine ⟨.inl, ?_⟩
    rintro (h | h)
    ·exact h
    ·rw [← h]; exact hm
   ·simp [eq_comm]
  rw [hadd, ih]
  constructor
  ·rintro (⟨p, v, h1, h2, h3⟩ | h)
   ·exact ⟨p, v, by omega, h2, h3⟩
   ·exact ⟨j, _, by omega, hg, h⟩
  ·rintro ⟨p, v, h1, h2, h3⟩
   by_cases hp : p = j
   ·subst hp; rw [hg] at h2; cases h2; exact .inr h3
   ·exact .inl ⟨p, v, by omega, h2, h3⟩
theorem zlt (T : List Obj) (l : List Val) : ∀ (j : Nat), 2 * j ≤ l.length → (normsTo T l (2 * j)).length ≤ j ∧
  ((normsTo T l (2 * j)).length = j ↔ ∀ (p q : Nat) (a b : Val), q < p → p < j → l[2 * p]? = some a → l[2 * q]? = some b → normOf T a ≠ normOf T b)
 | 0, _ => by
  refine ⟨by simp [normsTo], fun _ p q a b h1 h2 => by omega, fun _ => by simp [normsTo]⟩
 | j + 1, hj => by
  have hlt : 2 * j < l.length := by omega
  obtain ⟨ih1, ih2⟩ := zlt T l j (by omega)
  have hm := zlu T l j (by omega) (normOf T l[2 * j])
  have hg := List.getElem?_eq_getElem hlt
  have e := zls T l (2 * j) l[2 * j] (by omega) hg
  have e' : 2 * (j + 1) = 2 * j + 2 := by omega
  rw [e', e]
  unfold addNorm
  split
  ·rename_i hx
   refine ⟨by omega, fun h => by omega, fun h => ?_⟩
   obtain ⟨p, v, h1, h2, h3⟩ := hm.1 hx
   exact absurd h3.symm (h j p _ v h1 (by omega) hg h2)
  ·rename_i hx
   refine ⟨by simp; omega, ?_⟩
   rw [List.length_append, List.length_singleton]
   constructor
   ·intro h p q a b h1 h2 h3 h4
    by_cases hp : p = j
    ·subst hp
     rw [hg] at h3; cases h3
     intro hc
     exact hx (hm.2 ⟨q, b, h1, h4, hc.symm⟩)
    ·exact ih2.1 (by omega) p q a b h1 (by omega) h3 h4
   ·intro h
    have := ih2.2 fun p q a b h1 h2 h3 h4 => h p q a b h1 (by omega) h3 h4
    omega
theorem zij (T : List Obj) (l : List Val) (hev : l.length % 2 = 0) (hv : ∀ v ∈ l, valOf T v = true) : (normsTo T l l.length).length = l.length / 2 ↔ KeysOk T l := by
 have hl : l.length = 2 * (l.length / 2) := by omega
 have h := (zlt T l (l.length / 2) (by omega)).2
 rw [← hl] at h
 rw [h]
 unfold KeysOk
 constructor
 ·intro h i k a b hi hk hlt h1 h2
  have ha := hv a (List.mem_of_getElem? h1)
  have hb := hv b (List.mem_of_getElem? h2)
  have hil := (List.getElem?_eq_some_iff.1 h1).1
  have := h (i / 2) (k / 2) a b (by omega) (by omega) (by rw [show 2 * (i / 2) = i by omega]; exact h1) (by rw [show 2 * (k / 2) = k by omega]; exact h2)
  rw [Ne, zlp T a b ha hb] at this
  simpa using this
 ·intro h p q a b h1 h2 h3 h4
  have ha := hv a (List.mem_of_getElem? h3)
  have hb := hv b (List.mem_of_getElem? h4)
  rw [Ne, zlp T a b ha hb, h (2 * p) (2 * q) a b (by omega) (by omega) (by omega) h3 h4]
  simp
end Go.EX

