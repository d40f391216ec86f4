import Derived.Test.YtnmhohfmonlfoaaGreatDoorK11
import Derived.Test.YtnmhohfmonlfoaaGreatDoorK9
import Derived.Test.YtnmhohfmonlfoaaGreatDoorBld2
import Derived.Lib.ItoaLen
set_option linter.unusedVariables false
set_option linter.unusedSimpArgs false
namespace Go.EX
section
variable {code : Nat → Option XFun} {ext : Calls'}
def Ty.part {α : Type} (t : Ty α) (z : α) (xs : List α) (n : Nat) : List IV := t.row (xs ++ List.replicate n z)
theorem zky {α : Type} (t : Ty α) (z : α) (xs : List α) (n : Nat) : (t.part z xs n).length = (xs.length + n) * t.sz := by
 unfold Ty.part; rw [zn6]; simp
theorem zkz {α : Type} (t : Ty α) (h0 : 0 < t.sz) (z : α) (xs : List α) (n : Nat) (x : α) : setAll (t.part z xs (n + 1)) (xs.length * t.sz) (t.enc x) = t.part z (xs ++ [x]) n := by
 unfold Ty.part
 rw [zpv h0 (by simp)]
 congr 1
 rw [List.set_append_right _ _ (Nat.le_refl _)]
 simp [List.replicate_succ]
def twinL (sz bytes : Nat) (zs : List Value) : XCode :=
 (.seq (.seq (.region [0, 3, 4, 12] [⟨(some 9), .mv (.t 4), none⟩,
  ⟨(some 10), .mv (.t 0), none⟩,
  ⟨(some 11), .len (.t 10), none⟩,
  ⟨(some 12), .bin .lss (.t 9) (.t 11), none⟩])
 (.cond (.t 12)
  .skip
  (.exit 0)))
 (.seq (.block 1 (.region [0, 3, 4] [⟨(some 15), .mv (.t 3), none⟩,
  ⟨(some 16), .mv (.t 0), none⟩,
  ⟨(some 17), .mv (.t 4), none⟩,
  ⟨(some 18), .idxA sz (.t 16) (.t 17), none⟩,
  ⟨(some 19), .load (some sz) (.t 18), none⟩,
  ⟨(some 20), .buildSlice sz zs 1 [(0, sz, (.t 19))], none⟩,
  ⟨(some 21), .append sz bytes (.t 15) (.t 20), none⟩,
  ⟨(some 3), .mv (.t 21), none⟩]))
 (.region [0, 3, 4] [⟨(some 13), .mv (.t 4), none⟩,
  ⟨(some 14), .bin .add (.t 13) (.c (.int .i64 1)), none⟩,
  ⟨(some 4), .mv (.t 14), none⟩])))
def twinF (sz bytes : Nat) (zs : List Value) (k : Nat) (v : Value) : XFun := ⟨[.tmp 2],
 (.seq (.region [0] [⟨(some 2), .mv (.c (.slice none 0 0)), none⟩])
 (.seq (.region [0, 3] [⟨(some 5), .mv (.t 0), none⟩,
  ⟨(some 6), .len (.t 5), none⟩,
  ⟨(some 7), .bin .add (.t 6) (.c (.int .i64 1)), none⟩,
  ⟨(some 8), .makeSlice sz bytes zs (.c (.int .i64 0)) (.t 7), none⟩,
  ⟨(some 3), .mv (.t 8), none⟩])
 (.seq (.seq (.region [0, 3, 4] [⟨(some 4), .mv (.c (.int .i64 0)), none⟩])
 (.block 0 (.loop [0, 3, 4] (twinL sz bytes zs))))
 (.seq (.region [2] [⟨(some 22), .mv (.t 3), none⟩,
  ⟨(some 23), (.build zs [(k, 1, (.c v))]), none⟩,
  ⟨(some 24), .buildSlice sz zs 1 [(0, sz, (.t 23))], none⟩,
  ⟨(some 25), .append sz bytes (.t 22) (.t 24), none⟩,
  ⟨(some 26), .mv (.t 0), none⟩,
  ⟨(some 27), .len (.t 26), none⟩,
  ⟨(some 28), .slice sz (.t 25) none (some (.t 27)), none⟩,
  ⟨(some 2), .mv (.t 28), none⟩])
 .ret))))⟩
section
variable {α : Type} (t : Ty α) (z sp : α) (bytes : Nat) (zs : List Value)
theorem zj5 (hz : zs.map IV.val = t.enc z) (x : α) : imms (setAll (zs.map fun z => AV.imm (.val z)) 0 ((t.enc x).map AV.imm)) = some (t.enc x) := by
 have h1 : zs.length = t.sz := by rw [← t.len z, ← hz]; simp
 rw [zpy _ _ (by simp [h1, t.len])]
 simp
theorem zr4 (h0 : 0 < t.sz) (hz : zs.map IV.val = t.enc z) (iv : IV) (xs : List α) (h : Reads t iv xs) {s : St} (hb : xs.length < 9223372036854775807)
  (hst : s.tidy [0, 3, 4] = ⟨0, [(0, .imm iv), (3, .osl 0 0 t.sz 0 (some (xs.length + 1))), (4, int64 0)], [.flat (t.part z [] (xs.length + 1)) false]⟩) :
  ∃ e s', den code ext (.loop [0, 3, 4] (twinL t.sz bytes zs)) s = some (e, s') ∧ e ≠ .normal ∧
   (e = .exit 0 ∧ s' = ⟨0, [(0, .imm iv), (3, .osl 0 0 t.sz xs.length (some (xs.length + 1))), (4, int64 xs.length), (12, avb false)], [.flat (t.part z xs 1) false]⟩) := by
 refine zir (fun n s => ∃ i, i + n = xs.length ∧ s.tidy [0, 3, 4] = ⟨0, [(0, .imm iv), (3, .osl 0 0 t.sz i (some (xs.length + 1))), (4, int64 (i : Nat))], [.flat (t.part z (xs.take i) (n + 1)) false]⟩) _ ?_ xs.length _ ⟨0, by simp, by simpa using hst⟩
 clear hst
 rintro n s ⟨i, hi, hst⟩
 rw [hst]
 have hlen := zms h
 by_cases hlt : i < xs.length
 ·obtain ⟨row, off, cap, rfl, hc, hcut, hget⟩ := zmt h (List.getElem?_eq_getElem hlt)
  have e1 : IntKind.wrap .i64 ((i : Int) + 1) = (i : Int) + 1 := wrapI64 (by omega) (by omega)
  obtain ⟨m, rfl⟩ : ∃ m, n = m + 1 := ⟨n - 1, by omega⟩
  have hlt' : (i : Int) < xs.length := by omega
  have hle : ((t.enc xs[i]).map AV.imm).length = t.sz := by rw [List.length_map, t.len]
  have hzl : (imZ (copies 1 zs)).length = t.sz := by rw [← t.len z, ← hz]; simp [imZ]
  have hel : ∀ (A B : List IV), elems [.flat A false, .flat (t.enc xs[i]) false] t.sz (.osl 1 0 t.sz 1 (some 1)) = some (1, t.enc xs[i]) := by
   intro A B
   simp only [elems, List.getElem?_cons_succ, List.getElem?_cons_zero, Nat.one_mul]
   rw [zcv _ (t.len _)]; rfl
  have htk : xs.take (i + 1) = xs.take i ++ [xs[i]] := by rw [List.take_add_one, List.getElem?_eq_getElem hlt]; rfl
  have hset := zkz t h0 z (xs.take i) (m + 1) xs[i]
  have hti : (xs.take i).length = i := by rw [List.length_take]; omega
  rw [hti, ← htk] at hset
  have hfit : (i + 1) * t.sz ≤ (t.part z (xs.take i) (m + 1 + 1)).length := by
   rw [zky, hti]; exact Nat.mul_le_mul_right _ (by omega)
  have hap : exAppendX ⟨0, [(20, .osl 1 0 t.sz 1 (some 1)), (19, .agg ((t.enc xs[i]).map AV.imm)), (18, .imm (.ptr row (off + i * t.sz))), (17, int64 (i : Nat)), (16, .imm (.slice row off xs.length cap)), (15, .osl 0 0 t.sz i (some (xs.length + 1))),
    (0, .imm (.slice row off xs.length cap)), (3, .osl 0 0 t.sz i (some (xs.length + 1))), (4, int64 (i : Nat)), (12, avb true)], [.flat (t.part z (xs.take i) (m + 1 + 1)) false, .flat (t.enc xs[i]) false]⟩ t.sz bytes (.osl 0 0 t.sz i (some (xs.length + 1))) (.osl 1 0 t.sz 1 (some 1)) =
    some (.osl 0 0 t.sz (i + 1) (some (xs.length + 1)), ⟨0, [(20, .osl 1 0 t.sz 1 (some 1)), (19, .agg ((t.enc xs[i]).map AV.imm)), (18, .imm (.ptr row (off + i * t.sz))), (17, int64 (i : Nat)), (16, .imm (.slice row off xs.length cap)), (15, .osl 0 0 t.sz i (some (xs.length + 1))),
    (0, .imm (.slice row off xs.length cap)), (3, .osl 0 0 t.sz i (some (xs.length + 1))), (4, int64 (i : Nat)), (12, avb true)], [.flat (t.part z (xs.take (i + 1)) (m + 1)) false, .flat (t.enc xs[i]) false]⟩) := by
   simp only [exAppendX, exAppend, hel _ []]
   simp [hset, hfit, show i + 1 ≤ xs.length + 1 by omega]
  refine ⟨.normal, ⟨0, [(0, .imm (.slice row off xs.length cap)), (3, .osl 0 0 t.sz (i + 1) (some (xs.length + 1))), (4, int64 ((i : Int) + 1))], [.flat (t.part z (xs.take (i + 1)) (m + 1)) false, .flat (t.enc xs[i]) false]⟩, ?_, .inl ⟨rfl, m, by omega, i + 1, by omega, ?_⟩⟩
  ·have hone' := zj5 t z zs hz xs[i]
   have hzs : zs.length = t.sz := by rw [← t.len z, ← hz]; simp
   have hl2 := t.len xs[i]
   simp -implicitDefEqProofs [twinL, hlt', hlt, hget, hl2, hzs, hone', hap, e1]
  ·simp -implicitDefEqProofs
 ·have : i = xs.length := by omega
  subst this
  refine ⟨.exit 0, ⟨0, [(0, .imm iv), (3, .osl 0 0 t.sz xs.length (some (xs.length + 1))), (4, int64 xs.length), (12, avb false)], [.flat (t.part z xs 1) false]⟩, ?_, .inr ⟨by simp, rfl, rfl⟩⟩
  have : n = 0 := by omega
  subst this
  simp -implicitDefEqProofs [twinL, hlen]
theorem zr8 (h0 : 0 < t.sz) (hz : zs.map IV.val = t.enc z) (hzs : ∀ v ∈ zs, v.oneCell' = true) (k : Nat) (v : Value) (hk : k + 1 ≤ t.sz) (hp : setAll (zs.map fun z => AV.imm (.val z)) k [.imm (.val v)] = (t.enc sp).map .imm)
  {g : Nat} (hg : code g = some (twinF t.sz bytes zs k v)) {iv : IV} {xs : List α} (h : Reads t iv xs) (hb1 : xs.length < 9223372036854775807) (hb2 : bytes * (xs.length + 1) ≤ 281474976710656) :
  callW code ext g [.imm iv] [] = some (.osl 0 0 t.sz xs.length (some (xs.length + 1)), [.flat (t.row (xs ++ [sp])) false]) := by
 rw [zbr code ext hg]
 have hcp : copies (xs.length + 1) (zs.map IV.val) = t.part z [] (xs.length + 1) := by rw [hz, zcr]; rfl
 obtain ⟨e, s', h1, _, rfl, rfl⟩ := zr4 (code := code) (ext := ext) t z bytes zs h0 hz iv xs h (s := ⟨0, [(0, .imm iv), (3, .osl 0 0 t.sz 0 (some (xs.length + 1))), (4, int64 0)], [.flat (t.part z [] (xs.length + 1)) false]⟩) hb1 (by simp -implicitDefEqProofs)
 have hlen := zms h
 have e1 : IntKind.wrap .i64 ((xs.length : Int) + 1) = (xs.length : Int) + 1 := wrapI64 (by omega) (by omega)
 have e2 : (0 : Int) ≤ (xs.length : Int) + 1 := by omega
 have e3 : (bytes : Int) * ((xs.length : Int) + 1) ≤ 281474976710656 := by
  have : ((bytes * (xs.length + 1) : Nat) : Int) ≤ 281474976710656 := by omega
  simpa using this
 have e4 : (xs.length : Int) + 1 ≤ 9223372036854775807 := by omega
 have e6 : (xs.length : Int) ≤ (xs.length : Int) + 1 := by omega
 have e5 : ((xs.length : Int) + 1).toNat = xs.length + 1 := by omega
 have hzl : zs.length = t.sz := by rw [← t.len z, ← hz]; simp
 have hone' := zj5 t z zs hz sp
 have hl2 := t.len sp
 have hel : ∀ (A B : List IV), elems [.flat A false, .flat (t.enc sp) false] t.sz (.osl 1 0 t.sz 1 (some 1)) = some (1, t.enc sp) := by
  intro A B
  simp only [elems, List.getElem?_cons_succ, List.getElem?_cons_zero, Nat.one_mul]
  rw [zcv _ (t.len _)]; rfl
 have hset := zkz t h0 z xs 0 sp
 have hfin : t.part z (xs ++ [sp]) 0 = t.row (xs ++ [sp]) := by unfold Ty.part; simp
 have hfit : (xs.length + 1) * t.sz ≤ (t.part z xs (0 + 1)).length := by rw [zky]; exact Nat.le_refl _
 rw [hfin] at hset
 simp only [Nat.zero_add] at hset hfit
 simp -implicitDefEqProofs [twinF, hlen, e6, e1, e2, e3, e4, e5, hcp, h1, hp, hk, hzl, hl2, hone', exAppendX, exAppend, hel _ [], hset, hfit, exSlice]
end
end
end Go.EX


set_option linter.unusedVariables false
set_option linter.unusedSimpArgs false
namespace Go.EX
section
variable {code : Nat → Option XFun} {ext : Calls'}
theorem zsl (h : code 380 = some x380) {iv : IV} {xs : List Val} (hr : Reads tVal iv xs) : callW code ext 380 [.imm iv] [] = some (int64 xs.length, []) := by
 rw [zbr code ext h]
 simp -implicitDefEqProofs [x380, zms hr]
def objSize (o : Obj) : Int := if (1 + o.s.size : Int) ≤ 1048576 then 1 + o.s.size + o.l.xs.length else 1 + o.s.size
theorem zju (h : code 380 = some x380) (h' : code 338 = some x338) (o : Obj) (hw : tObj.wf o) :
  callW code ext 338 [.agg [.imm (.val (.int .u8 o.k)), .imm (.val (.string o.s)), .imm o.l.iv, int64 o.room, int64 o.fn]] [] = some (int64 (objSize o), []) := by
 rw [zbr code ext h']
 have hs : o.s.size ≤ 140737488355328 := hw.2.1
 have hl := o.l.ok.2.1
 have e1 : IntKind.wrap .i64 (1 + (o.s.size : Int)) = 1 + o.s.size := wrapI64 (by omega) (by omega)
 have e2 : IntKind.wrap .i64 (1 + (o.s.size : Int) + o.l.xs.length) = 1 + o.s.size + o.l.xs.length := wrapI64 (by omega) (by omega)
 have hv := zsl (ext := ext) h o.l.ok
 by_cases hc : (1 + o.s.size : Int) ≤ 1048576
 ·simp -implicitDefEqProofs [x338, e1, e2, hc, hv, objSize]
 ·simp -implicitDefEqProofs [x338, e1, hc, objSize]
def sizeGo : Int → List Obj → Int
 | n, [] => n
 | n, o :: r => if n ≤ 1048576 then sizeGo (n + objSize o) r else n
theorem zjt (o : Obj) (hw : tObj.wf o) : 1 ≤ objSize o ∧ objSize o ≤ 281474976710658 := by
 have hs : o.s.size ≤ 140737488355328 := hw.2.1
 have hl := o.l.ok.2.1
 unfold objSize
 split <;> omega
theorem zj1 (h : code 380 = some x380) (h' : code 338 = some x338) (h2 : code 339 = some x339) {iv : IV} {xs : List Obj} (hr : Reads tObj iv xs) : callW code ext 339 [.imm iv] [] = some (int64 (sizeGo xs.length xs), []) := by
 have hlen := zms hr
 have hb := hr.2.1
 have loop : ∃ e s', den code ext (.loop [0, 3, 4] x339L1) ⟨0, [(0, .imm iv), (3, int64 xs.length), (4, int64 0)], []⟩ = some (e, s') ∧ e ≠ .normal ∧
   (e = .exit 0 ∧ s'.k = 0 ∧ s'.mem = [] ∧ s'.env.get 3 = int64 (sizeGo xs.length xs)) := by
  refine zir (fun n s => ∃ (i : Nat) (m : Int), i + n = xs.length ∧ 0 ≤ m ∧ m ≤ 1000000000000000 ∧ sizeGo xs.length xs = sizeGo m (xs.drop i) ∧ s = ⟨0, [(0, .imm iv), (3, int64 m), (4, int64 (i : Nat))], []⟩) _ ?_ xs.length _ ⟨0, xs.length, by simp, by omega, by omega, by simp, rfl⟩
  rintro n _ ⟨i, m, hi, hm0, hm1, hg, rfl⟩
  by_cases hlt : i < xs.length
  ·obtain ⟨row, off, cap, rfl, hc, hcut, hget⟩ := zmt hr (List.getElem?_eq_getElem hlt)
   have e1 : IntKind.wrap .i64 ((i : Int) + 1) = (i : Int) + 1 := wrapI64 (by omega) (by omega)
   rw [List.drop_eq_getElem_cons hlt, sizeGo] at hg
   have hw := hr.1 _ (List.getElem_mem hlt)
   generalize xs[i] = o at hget hg hw
   have hbd := zjt o hw
   have hs := zju (ext := ext) h h' o hw
   simp only [tObj] at hget
   by_cases hc2 : m ≤ 1048576
   ·rw [if_pos hc2] at hg
    have e2 : IntKind.wrap .i64 (m + objSize o) = m + objSize o := wrapI64 (by omega) (by omega)
    refine ⟨.normal, ⟨0, [(0, .imm (.slice row off xs.length cap)), (3, int64 (m + objSize o)), (4, int64 ((i : Int) + 1))], []⟩, ?_, .inl ⟨rfl, n - 1, by omega, i + 1, _, by omega, by omega, by omega, hg, rfl⟩⟩
    simp -implicitDefEqProofs [x339L1, hlt, hget, hc2, hs, e1, e2]
   ·rw [if_neg hc2] at hg
    refine ⟨.exit 0, ⟨0, [(0, .imm (.slice row off xs.length cap)), (3, int64 m), (4, int64 (i : Int)), (14, avb false)], []⟩, ?_, .inr ⟨by simp, rfl, rfl, rfl, by rw [hg]; simp⟩⟩
    simp -implicitDefEqProofs [x339L1, hlt, hc2]
  ·have : ¬ ((i : Int) < xs.length) := by omega
   refine ⟨.exit 0, ⟨0, [(0, .imm iv), (3, int64 m), (4, int64 (i : Int)), (14, avb false)], []⟩, ?_, .inr ⟨by simp, rfl, rfl, rfl, ?_⟩⟩
   ·simp -implicitDefEqProofs [x339L1, hlen, this]
   ·rw [hg, List.drop_eq_nil_of_le (by omega)]; simp [sizeGo]
 obtain ⟨e, s', h1, _, rfl, h3, h4, h5⟩ := loop
 rw [zbr code ext h2]
 simp -implicitDefEqProofs [x339, hlen, h1, h3, h4, h5]
theorem zqt (h : code 380 = some x380) (h' : code 338 = some x338) (h2 : code 339 = some x339) (h3 : code 361 = some x361) {iv : IV} {xs : List Obj} (hr : Reads tObj iv xs) : callW code ext 361 [.imm iv] [] = some (int64 (sizeGo xs.length xs), []) := by
 rw [zbr code ext h3]
 simp -implicitDefEqProofs [x361, zj1 h h' h2 hr]
end
end Go.EX


set_option linter.unusedVariables false
set_option linter.unusedSimpArgs false
namespace Go.EX
section
variable {code : Nat → Option XFun} {ext : Calls'}
def sumL : List Obj → Int
 | [] => 0
 | o :: r => o.l.xs.length + sumL r
theorem zqa : ∀ (l : List Obj) (m : Int), (∀ o ∈ l, tObj.wf o) → 0 ≤ m → m ≤ 1000000000000000 → m ≤ sizeGo m l ∧ sizeGo m l ≤ 1000000000000000
 | [], m, _, h0, h1 => ⟨Int.le_refl _, h1⟩
 | o :: r, m, hw, h0, h1 => by
  have hb := zjt o (hw o (List.mem_cons_self ..))
  rw [sizeGo]
  split
  ·have := zqa r (m + objSize o) (fun x hx => hw x (List.mem_cons_of_mem _ hx)) (by omega) (by omega)
   omega
  ·omega
def spVal : Val := ⟨0, 7777⟩
theorem zr2 (h : code 379 = some x379) {iv : IV} {xs : List Val} (hr : Reads tVal iv xs) (hb : xs.length ≤ 1000000000) :
  callW code ext 379 [.imm iv] [] = some (.osl 0 0 2 xs.length (some (xs.length + 1)), [.flat (tVal.row (xs ++ [spVal])) false]) :=
 zr8 tVal zVal spVal 16 [.int .u8 0, .int .i64 0] (by decide) rfl (by simp [Value.oneCell']) 1 (.int .i64 7777) (by decide) rfl (h.trans rfl) hr (by omega) (by omega)
end
end Go.EX


set_option linter.unusedVariables false
set_option linter.unusedSimpArgs false
namespace Go.EX
section
variable {code : Nat → Option XFun} {ext : Calls'}
theorem zcx {α : Type} (t : Ty α) (xs ys : List α) : cut (t.row (xs ++ ys)) 0 (xs.length * t.sz) = some (t.row xs) := by
 rw [zn5]
 refine cut_mk ?_ (zn6 t xs)
 rw [List.drop_zero, ← zn6 t xs, List.take_left]
def twinIV {α : Type} (t : Ty α) (sp : α) (xs : List α) : IV := .slice (t.row (xs ++ [sp])) 0 xs.length (some (xs.length + 1))
theorem zrx {α : Type} (t : Ty α) (sp : α) {iv : IV} {xs : List α} (h : Reads t iv xs) : Reads t (twinIV t sp xs) xs :=
 ⟨h.1, h.2.1, .inr ⟨_, 0, _, rfl, fun c hc => by cases hc; omega, zcx t xs [sp]⟩⟩
def twinVals (l : Sl tVal) : Sl tVal := ⟨twinIV tVal spVal l.xs, l.xs, zrx tVal spVal l.ok⟩
def twinObj (o : Obj) : Obj := { o with l := twinVals o.l }
def spObj : Obj := ⟨0, ⟨#[115, 112, 97, 114, 101]⟩, ⟨.val (.slice none 0 0), [], ⟨by simp, by simp, .inl ⟨rfl, rfl⟩⟩⟩, 0, 0⟩
def zObj : Obj := ⟨0, .empty, ⟨.val (.slice none 0 0), [], ⟨by simp, by simp, .inl ⟨rfl, rfl⟩⟩⟩, 0, 0⟩
theorem zry (h : code 379 = some x379) (h' : code 372 = some x372) (o : Obj) (hb : o.l.xs.length ≤ 1000000000) :
  callW code ext 372 [.agg [.imm (.val (.int .u8 o.k)), .imm (.val (.string o.s)), .imm o.l.iv, int64 o.room, int64 o.fn]] [] =
   some (.agg [.imm (.val (.int .u8 o.k)), .imm (.val (.string o.s)), .imm (twinIV tVal spVal o.l.xs), int64 o.room, int64 o.fn], []) := by
 rw [zbr code ext h']
 have ht := zr2 (ext := ext) h o.l.ok hb
 simp -implicitDefEqProofs [x372, ht, twinIV]
end
end Go.EX


set_option linter.unusedVariables false
set_option linter.unusedSimpArgs false
namespace Go.EX
section
variable {code : Nat → Option XFun} {ext : Calls'}
theorem zh9 (h : code 336 = some x336) {iv : IV} {xs : List Val} (hr : Reads tVal iv xs) : callW code ext 336 [.imm (twinIV tVal spVal xs), .imm iv] [] = some (avb true, []) := by
 have hlen := zms hr
 have hb := hr.2.1
 have loop : ∃ e s', den code ext (.loop [0, 1, 5] x336L1) ⟨0, [(0, .imm (twinIV tVal spVal xs)), (1, .imm iv), (5, int64 0)], []⟩ = some (e, s') ∧ e ≠ .normal ∧
   (e = .exit 0 ∧ s' = ⟨0, [(0, .imm (twinIV tVal spVal xs)), (1, .imm iv), (5, int64 xs.length), (22, avb false)], []⟩) := by
  refine zir (fun n s => ∃ (i : Nat), i + n = xs.length ∧ s = ⟨0, [(0, .imm (twinIV tVal spVal xs)), (1, .imm iv), (5, int64 (i : Nat))], []⟩) _ ?_ xs.length _ ⟨0, by simp, rfl⟩
  rintro n _ ⟨i, hi, rfl⟩
  by_cases hlt : i < xs.length
  ·obtain ⟨row, off, cap, rfl, hc, hcut, hget⟩ := zmt hr (List.getElem?_eq_getElem hlt)
   have e1 : IntKind.wrap .i64 ((i : Int) + 1) = (i : Int) + 1 := wrapI64 (by omega) (by omega)
   have hget2 := zfo (t := tVal) (xs := xs ++ [spVal]) (i := i) (x := xs[i]) (by rw [List.getElem?_append_left hlt]; exact List.getElem?_eq_getElem hlt)
   generalize xs[i] = v at hget hget2
   simp only [tVal] at hget
   rw [show tVal.enc v = [.val (.int .u8 v.k), .val (.int .i64 v.n)] from rfl, show tVal.sz = 2 from rfl] at hget2
   refine ⟨.normal, ⟨0, [(0, .imm (twinIV tVal spVal xs)), (1, .imm (.slice row off xs.length cap)), (5, int64 ((i : Int) + 1))], []⟩, ?_, .inl ⟨rfl, n - 1, by omega, i + 1, by omega, rfl⟩⟩
   simp -implicitDefEqProofs [x336L1, hlt, hget, hget2, e1, twinIV]
  ·have : i = xs.length := by omega
   subst this
   refine ⟨.exit 0, _, ?_, .inr ⟨by simp, rfl, rfl⟩⟩
   simp -implicitDefEqProofs [x336L1, hlen]
 obtain ⟨e, s', h1, _, rfl, rfl⟩ := loop
 rw [zbr code ext h]
 have e1 : IntKind.wrap .i64 ((xs.length : Int) + 1) = (xs.length : Int) + 1 := wrapI64 (by omega) (by omega)
 have e2 : (0 : Int) ≤ (xs.length : Int) + 1 := by omega
 have e5 : ((xs.length : Int) + 1).toNat = xs.length + 1 := by omega
 have e6 : (xs.length : Int) < (xs.length : Int) + 1 := by omega
 have e7 : ¬ ((xs.length : Int) + 1 ≤ (xs.length : Int)) := by omega
 have hget2 := zfo (t := tVal) (xs := xs ++ [spVal]) (i := xs.length) (x := spVal) (by simp)
 rw [show tVal.enc spVal = [.val (.int .u8 0), .val (.int .i64 7777)] from rfl, show tVal.sz = 2 from rfl] at hget2
 simp only [twinIV] at h1 ⊢
 simp -implicitDefEqProofs [x336, hlen, h1, e1, e2, e5, e6, e7, exSlice, hget2]
theorem zh7 (h : code 336 = some x336) (h' : code 329 = some x329) (o : Obj) :
  callW code ext 329 [.agg [.imm (.val (.int .u8 o.k)), .imm (.val (.string o.s)), .imm (twinIV tVal spVal o.l.xs), int64 o.room, int64 o.fn], .agg [.imm (.val (.int .u8 o.k)), .imm (.val (.string o.s)), .imm o.l.iv, int64 o.room, int64 o.fn]] [] = some (avb true, []) := by
 rw [zbr code ext h']
 have ht := zh9 (ext := ext) h o.l.ok
 simp -implicitDefEqProofs [x329, ht]
theorem zh8 (h : code 336 = some x336) (h' : code 329 = some x329) (h2 : code 330 = some x330) (h3 : code 334 = some x334) {iv : IV} {xs : List Obj} (hr : Reads tObj iv xs) :
  callW code ext 334 [.imm (.slice (tObj.row (xs.map twinObj ++ [spObj])) 0 xs.length (some (xs.length + 1))), .imm iv] [] = some (avb true, []) := by
 have hlen := zms hr
 have hb := hr.2.1
 generalize hT : IV.slice (tObj.row (xs.map twinObj ++ [spObj])) 0 xs.length (some (xs.length + 1)) = T
 have loop : ∃ e s', den code ext (.loop [0, 1, 5] x330L1) ⟨0, [(0, .imm T), (1, .imm iv), (5, int64 0)], []⟩ = some (e, s') ∧ e ≠ .normal ∧
   (e = .exit 0 ∧ s' = ⟨0, [(0, .imm T), (1, .imm iv), (5, int64 xs.length), (22, avb false)], []⟩) := by
  refine zir (fun n s => ∃ (i : Nat), i + n = xs.length ∧ s = ⟨0, [(0, .imm T), (1, .imm iv), (5, int64 (i : Nat))], []⟩) _ ?_ xs.length _ ⟨0, by simp, rfl⟩
  rintro n _ ⟨i, hi, rfl⟩
  by_cases hlt : i < xs.length
  ·obtain ⟨row, off, cap, rfl, hc, hcut, hget⟩ := zmt hr (List.getElem?_eq_getElem hlt)
   have e1 : IntKind.wrap .i64 ((i : Int) + 1) = (i : Int) + 1 := wrapI64 (by omega) (by omega)
   have hget2 := zfo (t := tObj) (xs := xs.map twinObj ++ [spObj]) (i := i) (x := twinObj xs[i]) (by rw [List.getElem?_append_left (by simpa using hlt), List.getElem?_map, List.getElem?_eq_getElem hlt]; rfl)
   have hlo := zh7 (ext := ext) h h' xs[i]
   generalize xs[i] = o at hget hget2 hlo
   simp only [tObj] at hget
   rw [show tObj.enc (twinObj o) = [.val (.int .u8 o.k), .val (.string o.s), twinIV tVal spVal o.l.xs, .val (.int .i64 o.room), .val (.int .i64 o.fn)] from rfl, show tObj.sz = 5 from rfl] at hget2
   refine ⟨.normal, ⟨0, [(0, .imm T), (1, .imm (.slice row off xs.length cap)), (5, int64 ((i : Int) + 1))], []⟩, ?_, .inl ⟨rfl, n - 1, by omega, i + 1, by omega, rfl⟩⟩
   subst hT
   simp -implicitDefEqProofs [x330L1, hlt, hget, hget2, e1, hlo]
  ·have : i = xs.length := by omega
   subst this
   refine ⟨.exit 0, _, ?_, .inr ⟨by simp, rfl, rfl⟩⟩
   simp -implicitDefEqProofs [x330L1, hlen]
 obtain ⟨e, s', h1, _, rfl, rfl⟩ := loop
 have e1 : IntKind.wrap .i64 ((xs.length : Int) + 1) = (xs.length : Int) + 1 := wrapI64 (by omega) (by omega)
 have e2 : (0 : Int) ≤ (xs.length : Int) + 1 := by omega
 have e5 : ((xs.length : Int) + 1).toNat = xs.length + 1 := by omega
 have e6 : (xs.length : Int) < (xs.length : Int) + 1 := by omega
 have e7 : ¬ ((xs.length : Int) + 1 ≤ (xs.length : Int)) := by omega
 have hget2 := zfo (t := tObj) (xs := xs.map twinObj ++ [spObj]) (i := xs.length) (x := spObj) (by rw [List.getElem?_append_right (by simp)]; simp)
 rw [show tObj.enc spObj = [.val (.int .u8 0), .val (.string ⟨#[115, 112, 97, 114, 101]⟩), .val (.slice none 0 0), .val (.int .i64 0), .val (.int .i64 0)] from rfl, show tObj.sz = 5 from rfl] at hget2
 have hobjs : callW code ext 330 [.imm T, .imm iv] [] = some (avb true, []) := by
  rw [zbr code ext h2]
  subst hT
  simp -implicitDefEqProofs [x330, hlen, h1, e1, e2, e5, e6, e7, exSlice, hget2]
 rw [zbr code ext h3]
 simp -implicitDefEqProofs [x334, hobjs]
end
end Go.EX


set_option linter.unusedVariables false
set_option linter.unusedSimpArgs false
namespace Go.EX
def leadsOf (S : List Obj) (v : Val) : Option Nat :=
 if v.k < 3 then none else if 7 < v.k then none else if v.n < 1 then none else if (S.length : Int) < v.n then none else
 match S[(v.n - 1).toNat]? with
 | some o => if o.k = v.k then some (v.n - 1).toNat else none
 | none => none
theorem zh1 {S : List Obj} {v : Val} {k : Nat} (h : leadsOf S v = some k) : k < S.length ∧ (k : Int) = v.n - 1 ∧ 3 ≤ v.k ∧ v.k ≤ 7 ∧ ∃ o, S[k]? = some o ∧ o.k = v.k := by
 unfold leadsOf at h
 split at h
 ·cases h
 split at h
 ·cases h
 split at h
 ·cases h
 split at h
 ·cases h
 split at h
 ·rename_i o ho
  split at h
  ·rename_i hk
   cases h
   have := (List.getElem?_eq_some_iff.1 ho).1
   exact ⟨this, by omega, by omega, by omega, o, ho, hk⟩
  ·cases h
 ·cases h
inductive Reach (S : List Obj) (roots : List Val) : Nat → Prop
 | root {v : Val} {j : Nat} (hv : v ∈ roots) (h : leadsOf S v = some j) : Reach S roots j
 | step {k j : Nat} {o : Obj} {v : Val} (hk : Reach S roots k) (ho : S[k]? = some o) (hv : v ∈ o.l.xs) (h : leadsOf S v = some j) : Reach S roots j
theorem Reach.lt {S : List Obj} {roots : List Val} {k : Nat} (h : Reach S roots k) : k < S.length := by
 cases h with
 | root _ h => exact (zh1 h).1
 | step _ _ _ h => exact (zh1 h).1
def unm : List Bool → List Obj → Nat
 | false :: F, o :: S => o.l.xs.length + 1 + unm F S
 | true :: F, _ :: S => unm F S
 | _, _ => 0
theorem zsd : ∀ (F : List Bool) (S : List Obj) (k : Nat) (o : Obj), F[k]? = some false → S[k]? = some o → unm (F.set k true) S + (o.l.xs.length + 1) = unm F S
 | [], S, k, o, h, _ => by simp at h
 | b :: F, [], k, o, _, h => by simp at h
 | b :: F, p :: S, 0, o, h, h' => by simp at h h'; subst h; subst h'; simp [unm]; omega
 | b :: F, p :: S, k + 1, o, h, h' => by
  simp only [List.set_cons_succ]
  have := zsd F S k o (by simpa using h) (by simpa using h')
  cases b <;> simp only [unm] <;> omega
structure Marks (S : List Obj) (roots : List Val) (F : List Bool) (T : List Val) : Prop where
 len : F.length = S.length
 mark : ∀ k, F[k]? = some true → Reach S roots k
 todo : ∀ v ∈ T, ∀ j, leadsOf S v = some j → Reach S roots j
 roots : ∀ v ∈ roots, ∀ j, leadsOf S v = some j → F[j]? = some true ∨ v ∈ T
 step : ∀ (k : Nat) (o : Obj), F[k]? = some true → S[k]? = some o → ∀ v ∈ o.l.xs, ∀ j : Nat, leadsOf S v = some j → F[j]? = some true ∨ v ∈ T
theorem Marks.start (S : List Obj) (roots : List Val) : Marks S roots (List.replicate S.length false) roots :=
 ⟨by simp, fun k h => by simp [List.getElem?_replicate] at h, fun v hv j h => .root hv h, fun v hv j h => .inr hv, fun k o h => by simp [List.getElem?_replicate] at h⟩
theorem Marks.drop {S : List Obj} {roots : List Val} {F : List Bool} {T : List Val} {v : Val} (h : Marks S roots F (T ++ [v])) (hv : ∀ j, leadsOf S v = some j → F[j]? = some true) : Marks S roots F T := by
 have key : ∀ u j, leadsOf S u = some j → (F[j]? = some true ∨ u ∈ T ++ [v]) → F[j]? = some true ∨ u ∈ T := by
  intro u j hu h1
  rcases h1 with h1 | h1
  ·exact .inl h1
  ·rw [List.mem_append, List.mem_singleton] at h1
   rcases h1 with h1 | rfl
   ·exact .inr h1
   ·exact .inl (hv j hu)
 exact ⟨h.len, h.mark, fun u hu j hj => h.todo u (List.mem_append_left _ hu) j hj, fun u hu j hj => key u j hj (h.roots u hu j hj), fun k o hk ho u hu j hj => key u j hj (h.step k o hk ho u hu j hj)⟩
theorem Marks.take {S : List Obj} {roots : List Val} {F : List Bool} {T : List Val} {v : Val} {k : Nat} {o : Obj} (h : Marks S roots F (T ++ [v])) (hv : leadsOf S v = some k) (hF : F[k]? = some false) (ho : S[k]? = some o) : Marks S roots (F.set k true) (T ++ o.l.xs) := by
 have hkl : k < F.length := (List.getElem?_eq_some_iff.1 hF).1
 have hk := h.todo v (by simp) k hv
 have hset : ∀ j, (F.set k true)[j]? = some true ↔ j = k ∨ F[j]? = some true := by
  intro j
  rw [List.getElem?_set]
  by_cases e : k = j
  ·subst e; simp [hkl]
  ·rw [if_neg e]; simp [Ne.symm e]
 have key : ∀ u j, leadsOf S u = some j → (F[j]? = some true ∨ u ∈ T ++ [v]) → (F.set k true)[j]? = some true ∨ u ∈ T ++ o.l.xs := by
  intro u j hu h1
  rcases h1 with h1 | h1
  ·exact .inl ((hset j).2 (.inr h1))
  ·rw [List.mem_append, List.mem_singleton] at h1
   rcases h1 with h1 | rfl
   ·exact .inr (List.mem_append_left _ h1)
   ·rw [hv] at hu; cases hu; exact .inl ((hset k).2 (.inl rfl))
 refine ⟨by simp [h.len], fun j hj => ?_, fun u hu j hj => ?_, fun u hu j hj => key u j hj (h.roots u hu j hj), fun q p hq hp u hu j hj => ?_⟩
 ·rcases (hset j).1 hj with rfl | hj
  ·exact hk
  ·exact h.mark j hj
 ·rw [List.mem_append] at hu
  rcases hu with hu | hu
  ·exact h.todo u (List.mem_append_left _ hu) j hj
  ·exact .step hk ho hu hj
 ·rcases (hset q).1 hq with rfl | hq
  ·rw [ho] at hp; cases hp
   exact .inr (List.mem_append_right _ hu)
  ·exact key u j hj (h.step q p hq hp u hu j hj)
theorem Marks.done {S : List Obj} {roots : List Val} {F : List Bool} (h : Marks S roots F []) (k : Nat) : F[k]? = some true ↔ Reach S roots k := by
 refine ⟨h.mark k, fun hk => ?_⟩
 induction hk with
 | root hv hl => rcases h.roots _ hv _ hl with h | h; exact h; cases h
 | step _ ho hv hl ih => rcases h.step _ _ ih ho _ hv _ hl with h | h; exact h; cases h
def addAll (S : List Obj) : List Nat → List Val → List Nat
 | out, [] => out
 | out, v :: l => match leadsOf S v with
  | some o => if o ∈ out then addAll S out l else addAll S (out ++ [o]) l
  | none => addAll S out l
theorem zad (S : List Obj) : ∀ (l : List Val) (out : List Nat), ∃ r, addAll S out l = out ++ r
 | [], out => ⟨[], by simp [addAll]⟩
 | v :: l, out => by
  rw [addAll]
  split
  ·rename_i o ho
   split
   ·exact zad S l out
   ·obtain ⟨r, hr⟩ := zad S l (out ++ [o])
    exact ⟨o :: r, by rw [hr]; simp⟩
  ·exact zad S l out
theorem zac (S : List Obj) : ∀ (l : List Val) (out : List Nat), out.Nodup → (addAll S out l).Nodup
 | [], out, h => h
 | v :: l, out, h => by
  rw [addAll]
  split
  ·rename_i o ho
   split
   ·exact zac S l out h
   ·rename_i hn
    refine zac S l _ ?_
    rw [List.nodup_append]
    exact ⟨h, by simp, fun a ha b hb => by simp at hb; subst hb; exact fun e => hn (e ▸ ha)⟩
  ·exact zac S l out h
theorem zab (S : List Obj) : ∀ (l : List Val) (out : List Nat) (j : Nat), j ∈ addAll S out l ↔ j ∈ out ∨ ∃ v ∈ l, leadsOf S v = some j
 | [], out, j => by simp [addAll]
 | v :: l, out, j => by
  rw [addAll]
  split
  ·rename_i o ho
   split
   ·rename_i hm
    rw [zab S l out j]
    constructor
    ·rintro (h | ⟨u, hu, h⟩)
     ·exact .inl h
     ·exact .inr ⟨u, List.mem_cons_of_mem _ hu, h⟩
    ·rintro (h | ⟨u, hu, h⟩)
     ·exact .inl h
     ·rcases List.mem_cons.1 hu with rfl | hu
      ·rw [ho] at h; cases h; exact .inl hm
      ·exact .inr ⟨u, hu, h⟩
   ·rw [zab S l _ j, List.mem_append, List.mem_singleton]
    constructor
    ·rintro ((h | rfl) | ⟨u, hu, h⟩)
     ·exact .inl h
     ·exact .inr ⟨v, List.mem_cons_self .., ho⟩
     ·exact .inr ⟨u, List.mem_cons_of_mem _ hu, h⟩
    ·rintro (h | ⟨u, hu, h⟩)
     ·exact .inl (.inl h)
     ·rcases List.mem_cons.1 hu with rfl | hu
      ·rw [ho] at h; cases h; exact .inl (.inr rfl)
      ·exact .inr ⟨u, hu, h⟩
  ·rename_i hn
   rw [zab S l out j]
   constructor
   ·rintro (h | ⟨u, hu, h⟩)
    ·exact .inl h
    ·exact .inr ⟨u, List.mem_cons_of_mem _ hu, h⟩
   ·rintro (h | ⟨u, hu, h⟩)
    ·exact .inl h
    ·rcases List.mem_cons.1 hu with rfl | hu
     ·rw [hn] at h; cases h
     ·exact .inr ⟨u, hu, h⟩
structure Grown (S : List Obj) (roots : List Val) (out : List Nat) (i : Nat) : Prop where
 nodup : out.Nodup
 reach : ∀ k ∈ out, Reach S roots k
 roots : ∀ v ∈ roots, ∀ j, leadsOf S v = some j → j ∈ out
 step : ∀ k ∈ out.take i, ∀ o : Obj, S[k]? = some o → ∀ v ∈ o.l.xs, ∀ j, leadsOf S v = some j → j ∈ out
theorem Grown.start (S : List Obj) (roots : List Val) : Grown S roots (addAll S [] roots) 0 :=
 ⟨zac S roots [] (by simp), fun k hk => by
  rcases (zab S roots [] k).1 hk with h | ⟨v, hv, h⟩
  ·cases h
  ·exact .root hv h, fun v hv j hj => (zab S roots [] j).2 (.inr ⟨v, hv, hj⟩), fun k hk => by simp at hk⟩
theorem Grown.next {S : List Obj} {roots : List Val} {out : List Nat} {i k : Nat} {o : Obj} (h : Grown S roots out i) (hk : out[i]? = some k) (ho : S[k]? = some o) : Grown S roots (addAll S out o.l.xs) (i + 1) := by
 have hi := (List.getElem?_eq_some_iff.1 hk).1
 refine ⟨zac S _ _ h.nodup, fun j hj => ?_, fun v hv j hj => (zab S _ _ j).2 (.inl (h.roots v hv j hj)), fun q hq p hp v hv j hj => ?_⟩
 ·rcases (zab S _ _ j).1 hj with hj | ⟨v, hv, hj⟩
  ·exact h.reach j hj
  ·exact .step (h.reach k (List.mem_of_getElem? hk)) ho hv hj
 ·obtain ⟨r, hr⟩ := zad S o.l.xs out
  rw [hr, List.take_append_of_le_length (by omega), List.take_add_one, hk, List.mem_append] at hq
  rcases hq with hq | hq
  ·exact (zab S _ _ j).2 (.inl (h.step q hq p hp v hv j hj))
  ·simp at hq; subst hq
   rw [ho] at hp; cases hp
   exact (zab S _ _ j).2 (.inr ⟨v, hv, hj⟩)
theorem Grown.done {S : List Obj} {roots : List Val} {out : List Nat} {i : Nat} (h : Grown S roots out i) (hi : out.length ≤ i) (k : Nat) : k ∈ out ↔ Reach S roots k := by
 refine ⟨h.reach k, fun hk => ?_⟩
 have hs := h.step
 rw [List.take_of_length_le hi] at hs
 induction hk with
 | root hv hl => exact h.roots _ hv _ hl
 | step _ ho hv hl ih => exact hs _ ih _ ho _ hv _ hl
theorem Grown.short {S : List Obj} {roots : List Val} {out : List Nat} {i : Nat} (h : Grown S roots out i) : out.length ≤ S.length := by
 have hp : out.Perm ((List.range S.length).filter fun k => decide (k ∈ out)) := (List.perm_ext_iff_of_nodup h.nodup (List.nodup_range.filter _)).2 fun k => by
  rw [List.mem_filter, List.mem_range]
  exact ⟨fun hk => ⟨(h.reach k hk).lt, by simpa using hk⟩, fun hk => by simpa using hk.2⟩
 rw [hp.length_eq]
 exact Nat.le_trans (List.length_filter_le _ _) (by simp)
end Go.EX


set_option linter.unusedVariables false
set_option linter.unusedSimpArgs false
namespace Go.EX
section
variable {code : Nat → Option XFun} {ext : Calls'}
def leadInt (S : List Obj) (v : Val) : Int := match leadsOf S v with
 | some k => (k : Nat)
 | none => -1
theorem zh5 (h : code 502 = some x502) {sv : IV} {S : List Obj} (hr : Reads tObj sv S) (v : Val) : callW code ext 502 [.imm sv, .agg [.imm (.val (.int .u8 v.k)), int64 v.n]] [] = some (int64 (leadInt S v), []) := by
 rw [zbr code ext h]
 have hlen := zms hr
 have hb := hr.2.1
 unfold leadInt leadsOf
 by_cases c1 : v.k < 3
 ·simp -implicitDefEqProofs [x502, c1]
 by_cases c2 : 7 < v.k
 ·simp -implicitDefEqProofs [x502, c1, c2]
 by_cases c3 : v.n < 1
 ·simp -implicitDefEqProofs [x502, c1, c2, c3]
 by_cases c4 : (S.length : Int) < v.n
 ·simp -implicitDefEqProofs [x502, c1, c2, c3, c4, hlen]
 obtain ⟨vk, vn⟩ := v
 simp only at c1 c2 c3 c4 ⊢
 obtain ⟨p, rfl⟩ : ∃ p : Nat, vn = (p : Int) + 1 := ⟨(vn - 1).toNat, by omega⟩
 have hlt : p < S.length := by omega
 obtain ⟨row, off, cap, rfl, hc, hcut, hget⟩ := zmt hr (List.getElem?_eq_getElem hlt)
 have ep : ((p : Int) + 1 - 1).toNat = p := by omega
 rw [if_neg c1, if_neg c2, if_neg c3, if_neg c4, ep, List.getElem?_eq_getElem hlt]
 generalize S[p] = o at hget
 simp only [tObj] at hget
 have g0 : row[off + p * 5]? = some (.val (.int .u8 o.k)) := zcy hget 0 (by omega)
 have e1 : IntKind.wrap .i64 (p : Int) = p := wrapI64 (by omega) (by omega)
 by_cases c5 : o.k = vk
 ·simp -implicitDefEqProofs [x502, c1, c2, c3, c4, hlen, e1, g0, c5, hlt]
 ·simp -implicitDefEqProofs [x502, c1, c2, c3, c4, hlen, e1, g0, c5, hlt]
theorem zmp (h : code 502 = some x502) (sv : IV) (S : List Obj) (roots : List Val) (hr : Reads tObj sv S) (hM : roots.length + unm (List.replicate S.length false) S ≤ 100000000) {s : St} (C : List IV) (mv : Bool) (hC : cut C 0 (roots.length * 2) = some (tVal.row roots))
  (hst : s.tidy [0, 5, 6] = ⟨0, [(0, .imm sv), (5, .osl 0 0 1 S.length (some S.length)), (6, .osl 1 0 2 roots.length none)], [.flat (tBool.row (List.replicate S.length false)) false, .flat C mv]⟩) :
  ∃ e s', den code ext (.loop [0, 5, 6] x509L1) s = some (e, s') ∧ e ≠ .normal ∧
   (e = .exit 0 ∧ ∃ F C' mv', Marks S roots F [] ∧ s' = ⟨0, [(0, .imm sv), (5, .osl 0 0 1 S.length (some S.length)), (6, .osl 1 0 2 0 none), (16, avb false)], [.flat (tBool.row F) false, .flat C' mv']⟩) := by
 refine zir (fun n s => ∃ (F : List Bool) (T : List Val) (C : List IV) (mv : Bool), n = T.length + unm F S ∧ n ≤ 100000000 ∧ Marks S roots F T ∧ cut C 0 (T.length * 2) = some (tVal.row T) ∧
  s.tidy [0, 5, 6] = ⟨0, [(0, .imm sv), (5, .osl 0 0 1 S.length (some S.length)), (6, .osl 1 0 2 T.length none)], [.flat (tBool.row F) false, .flat C mv]⟩) _ ?_ _ _ ⟨_, roots, C, mv, rfl, hM, .start S roots, hC, hst⟩
 clear hst hC C mv s hM
 rintro n s ⟨F, T, C, mv, hn, hnb, hI, hC, hst⟩
 rw [hst]
 have hFl := hI.len
 rcases List.eq_nil_or_concat T with rfl | ⟨T0, v, rfl⟩
 ·refine ⟨.exit 0, ⟨0, [(0, .imm sv), (5, .osl 0 0 1 S.length (some S.length)), (6, .osl 1 0 2 0 none), (16, avb false)], [.flat (tBool.row F) false, .flat C mv]⟩, ?_, .inr ⟨by simp, rfl, F, C, mv, hI, rfl⟩⟩
  simp -implicitDefEqProofs [x509L1]
 ·have hlv := zh5 (ext := ext) h hr v
  have e0 : (0 : Int) < (T0.length : Int) + 1 := by omega
  simp only [List.length_append, List.length_cons, List.length_nil, Nat.zero_add, List.concat_eq_append] at hn hC hI ⊢
  have e1 : IntKind.wrap .i64 (T0.length : Int) = T0.length := wrapI64 (by omega) (by omega)
  have e2 : ((T0.length : Int) + 1 - 1) = T0.length := by omega
  have e3 : (T0.length : Int) < (T0.length : Int) + 1 := by omega
  have e4 : (T0.length : Int) ≤ (T0.length : Int) + 1 := by omega
  have hcv : cut C (T0.length * 2) 2 = some [.val (.int .u8 v.k), .val (.int .i64 v.n)] := by
   have := zcw hC (a := T0.length * 2) (b := 2) (by omega)
   rw [Nat.zero_add] at this
   rw [this]
   exact zfo (t := tVal) (i := T0.length) (x := v) (by simp)
  have hc0 : cut C 0 (T0.length * 2) = some (tVal.row T0) := by
   have := zcw hC (a := 0) (b := T0.length * 2) (by omega)
   rw [Nat.zero_add] at this
   rw [this]
   exact zcx tVal T0 [v]
  cases hl : leadsOf S v with
  | none =>
   have hli : leadInt S v = -1 := by simp [leadInt, hl]
   rw [hli] at hlv
   refine ⟨.normal, ⟨0, [(0, .imm sv), (5, .osl 0 0 1 S.length (some S.length)), (6, .osl 1 0 2 T0.length none), (7, int64 (-1)), (38, avb false)], [.flat (tBool.row F) false, .flat C mv]⟩, ?_, .inl ⟨rfl, T0.length + unm F S, by omega, F, T0, C, mv, rfl, by omega, hI.drop (fun j hj => by rw [hl] at hj; cases hj), hc0, ?_⟩⟩
   ·simp -implicitDefEqProofs [x509L1, e0, e1, e2, e3, e4, hcv, hlv, exSlice]
   ·simp -implicitDefEqProofs
  | some k =>
   have hli : leadInt S v = (k : Nat) := by simp [leadInt, hl]
   rw [hli] at hlv
   obtain ⟨hks, _, _, _, o, ho, _⟩ := zh1 hl
   have hkF : k < F.length := by omega
   have hF := List.getElem?_eq_getElem hkF
   have hks' : (k : Int) < S.length := by omega
   have hfe : (tBool.row F)[k]? = some (.val (.bool F[k])) := by
    have := zc1 (zfo (t := tBool) hF)
    rwa [show tBool.sz = 1 from rfl, Nat.mul_one] at this
   cases hb : F[k] with
   | true =>
    rw [hb] at hF hfe
    refine ⟨.normal, ⟨0, [(0, .imm sv), (5, .osl 0 0 1 S.length (some S.length)), (6, .osl 1 0 2 T0.length none), (7, int64 k), (38, avb false)], [.flat (tBool.row F) false, .flat C mv]⟩, ?_, .inl ⟨rfl, T0.length + unm F S, by omega, F, T0, C, mv, rfl, by omega, hI.drop (fun j hj => by rw [hl] at hj; cases hj; exact hF), hc0, ?_⟩⟩
    ·simp -implicitDefEqProofs [x509L1, e0, e1, e2, e3, e4, hcv, hlv, exSlice, hks, hks', hfe]
    ·simp -implicitDefEqProofs
   | false =>
    rw [hb] at hF hfe
    obtain ⟨row, off, cap, rfl, hc, hcut, hget⟩ := zmt hr ho
    simp only [tObj] at hget
    have g2 : row[off + k * 5 + 2]? = some o.l.iv := zcy hget 2 (by omega)
    have hset := zpv (t := tBool) (xs := F) (by decide) (i := k) (by omega) true
    have hset' : setAll (tBool.row F) k [.val (.bool true)] = tBool.row (F.set k true) := by rw [show tBool.sz = 1 from rfl, Nat.mul_one] at hset; exact hset
    have hle : k + 1 ≤ (tBool.row F).length := by rw [zn6]; simp only [tBool]; omega
    have hel := fun m => zdy (t := tVal) m o.l.ok
    rw [show tVal.sz = 2 from rfl] at hel
    have hum := zsd F S k o hF ho
    have hbd : (T0.length + o.l.xs.length) * 16 ≤ 140737488355328 := by omega
    refine ⟨.normal, ⟨0, [(0, .imm (.slice row off S.length cap)), (5, .osl 0 0 1 S.length (some S.length)), (6, .osl 1 0 2 (T0.length + o.l.xs.length) none)], [.flat (tBool.row (F.set k true)) false, .flat (tVal.row (T0 ++ o.l.xs)) false]⟩, ?_, .inl ⟨rfl, (T0 ++ o.l.xs).length + unm (F.set k true) S, by rw [List.length_append]; omega, F.set k true, T0 ++ o.l.xs, tVal.row (T0 ++ o.l.xs), false, rfl, by rw [List.length_append]; omega, hI.take hl hF ho, zc3 tVal _, ?_⟩⟩
    ·simp -implicitDefEqProofs [x509L1, e0, e1, e2, e3, e4, hcv, hlv, exSlice, hks, hks', hfe, g2, hset', hle, exAppendX, exAppend, hel, hc0, hbd, zn5]
    ·simp -implicitDefEqProofs
theorem zmq (h : code 502 = some x502) (h' : code 509 = some x509) {sv rv : IV} {S : List Obj} {roots : List Val} (hr : Reads tObj sv S) (hq : Reads tVal rv roots) (hM : roots.length + unm (List.replicate S.length false) S ≤ 100000000) (hS : S.length ≤ 1048576) :
  ∃ F, Marks S roots F [] ∧ callW code ext 509 [.imm sv, .imm rv] [] = some (.osl 0 0 1 S.length (some S.length), [.flat (tBool.row F) false]) := by
 have hlen := zms hr
 have hlen2 := zms hq
 have hz : copies S.length [IV.val (.bool false)] = tBool.row (List.replicate S.length false) := zcr (t := tBool) S.length false
 have e1 : (S.length : Int) ≤ 281474976710656 := by omega
 have e2 : (S.length : Int) ≤ 9223372036854775807 := by omega
 have hel := fun m => zdy (t := tVal) m hq
 rw [show tVal.sz = 2 from rfl] at hel
 have hbd : roots.length * 16 ≤ 140737488355328 := by omega
 rw [zbr code ext h']
 by_cases h0 : roots = []
 ·subst h0
  refine ⟨List.replicate S.length false, .start S [], ?_⟩
  have hl : den code ext (.loop [0, 5, 6] x509L1) ⟨0, [(0, .imm sv), (5, .osl 0 0 1 S.length (some S.length)), (6, nilS)], [.flat (tBool.row (List.replicate S.length false)) false]⟩ = some (.exit 0, ⟨0, [(0, .imm sv), (5, .osl 0 0 1 S.length (some S.length)), (6, nilS), (16, avb false)], [.flat (tBool.row (List.replicate S.length false)) false]⟩) := by
   rw [zda]
   simp -implicitDefEqProofs [x509L1]
  simp -implicitDefEqProofs [x509, hlen, hz, e1, e2, exAppendX, exAppend, hel, hl]
 ·have hne : ¬ roots.length = 0 := fun e => h0 (List.eq_nil_of_length_eq_zero e)
  obtain ⟨e, s', h1, _, rfl, F, C', mv', hI, rfl⟩ := zmp (ext := ext) h sv S roots hr hM (tVal.row roots) false (zc3 tVal roots)
   (s := ⟨0, [(0, .imm sv), (5, .osl 0 0 1 S.length (some S.length)), (6, .osl 1 0 2 roots.length none)], [.flat (tBool.row (List.replicate S.length false)) false, .flat (tVal.row roots) false]⟩) (by simp -implicitDefEqProofs)
  refine ⟨F, hI, ?_⟩
  simp -implicitDefEqProofs [x509, hlen, hz, e1, e2, exAppendX, exAppend, hel, hbd, h0, h1]
end
end Go.EX


set_option linter.unusedVariables false
set_option linter.unusedSimpArgs false
namespace Go.EX
def ptrs (s : Nat) (out : List Nat) : List AV := out.map fun k => .optr s (k * 5)
def seenL (s : Nat) (out : List Nat) : List (AV × AV) := out.map fun k => (.optr s (k * 5), avb true)
@[simp] theorem renL_ptrs (f : Nat → Option Nat) (s : Nat) (out : List Nat) (h : (f s).isSome = true) : AV.ren.renL f (ptrs s out) = ptrs ((f s).getD 0) out := by
 obtain ⟨j, hj⟩ := Option.isSome_iff_exists.1 h
 rw [zm6]
 simp [ptrs, AV.ren, hj]
@[simp] theorem seen_ren (f : Nat → Option Nat) (s : Nat) (out : List Nat) (h : (f s).isSome = true) : List.map (fun p => (AV.ren f p.1, AV.ren f p.2)) (seenL s out) = seenL ((f s).getD 0) out := by
 obtain ⟨j, hj⟩ := Option.isSome_iff_exists.1 h
 simp [seenL, AV.ren, hj]
@[simp] theorem refs_ptrs (s : Nat) (out : List Nat) : AV.refs.refsL (ptrs s out) = List.replicate out.length s := by
 unfold ptrs
 induction out with
 | nil => rfl
 | cons x r ih => simp only [List.map_cons, AV.refs.refsL, ih, AV.refs, List.length_cons, List.replicate_succ]; rfl
@[simp] theorem refs_seen1 (s : Nat) (out : List Nat) : AV.refs.refsL (List.map (fun x => x.1) (seenL s out)) = List.replicate out.length s := by
 unfold seenL
 induction out with
 | nil => rfl
 | cons x r ih => simp only [List.map_cons, AV.refs.refsL, ih, AV.refs, List.length_cons, List.replicate_succ]; rfl
@[simp] theorem refs_seen2 (s : Nat) (out : List Nat) : AV.refs.refsL (List.map (fun x => x.2) (seenL s out)) = [] := by
 unfold seenL
 induction out with
 | nil => rfl
 | cons x r ih => simp only [List.map_cons, AV.refs.refsL, ih, AV.refs]; rfl
theorem zmm (m : Mem) : ∀ (n : Nat) (todo acc : List Nat), (∀ x ∈ todo, x ∈ acc) → reach m n todo acc = acc
 | 0, _, _, _ => rfl
 | n + 1, [], _, _ => rfl
 | n + 1, x :: todo, acc, h => by
  rw [reach, if_pos (h x (List.mem_cons_self ..))]
  exact zmm m n todo acc fun y hy => h y (List.mem_cons_of_mem _ hy)
@[simp] theorem reach_rep (m : Mem) (n a s : Nat) (acc : List Nat) (h : s ∈ acc) : reach m n (List.replicate a s) acc = acc :=
 zmm m n _ acc fun x hx => by rw [List.eq_of_mem_replicate hx]; exact h
@[simp] theorem reach_rep2 (m : Mem) (n a b s t : Nat) (acc : List Nat) (h : s ∈ acc) (h' : t ∈ acc) : reach m n (List.replicate a s ++ List.replicate b t) acc = acc :=
 zmm m n _ acc fun x hx => by
  rcases List.mem_append.1 hx with hx | hx
  ·rw [List.eq_of_mem_replicate hx]; exact h
  ·rw [List.eq_of_mem_replicate hx]; exact h'
@[simp] theorem reach_rep3 (m : Mem) (n a b c s t u : Nat) (acc : List Nat) (h : s ∈ acc) (h' : t ∈ acc) (h2 : u ∈ acc) : reach m n (List.replicate a s ++ (List.replicate b t ++ List.replicate c u)) acc = acc :=
 zmm m n _ acc fun x hx => by
  rcases List.mem_append.1 hx with hx | hx
  ·rw [List.eq_of_mem_replicate hx]; exact h
  ·rcases List.mem_append.1 hx with hx | hx
   ·rw [List.eq_of_mem_replicate hx]; exact h'
   ·rw [List.eq_of_mem_replicate hx]; exact h2
theorem zfh (s k : Nat) : ∀ (out : List Nat) (i : Nat),
  (k ∉ out ∧ ∀ m : Mem, ((m[s]?).getD .dead).hasCells = true → findK m 3 (.optr s (k * 5)) (seenL s out) i = some none) ∨
  (k ∈ out ∧ ∃ j, (∀ m : Mem, ((m[s]?).getD .dead).hasCells = true → findK m 3 (.optr s (k * 5)) (seenL s out) i = some (some (i + j))) ∧ (seenL s out)[j]? = some (.optr s (k * 5), avb true))
 | [], i => .inl ⟨by simp, fun _ _ => rfl⟩
 | x :: r, i => by
  by_cases h : k = x
  ·subst h
   exact .inr ⟨by simp, 0, fun m hm => by simp [seenL, findK, keyEq, hm], rfl⟩
  ·have h5 : ¬ k * 5 = x * 5 := by omega
   have hbq : (k * 5 == x * 5) = false := beq_eq_false_iff_ne.2 h5
   have hf : ∀ m : Mem, ((m[s]?).getD .dead).hasCells = true → findK m 3 (.optr s (k * 5)) (seenL s (x :: r)) i = findK m 3 (.optr s (k * 5)) (seenL s r) (i + 1) := fun m hm => by simp [seenL, findK, keyEq, hm, hbq]
   rcases zfh s k r (i + 1) with ⟨h1, h2⟩ | ⟨h1, j, h2, h3⟩
   ·exact .inl ⟨by simp [h, h1], fun m hm => by rw [hf m hm, h2 m hm]⟩
   ·refine .inr ⟨by simp [h1], j + 1, fun m hm => ?_, h3⟩
    rw [hf m hm, h2 m hm]; congr 2; omega
theorem zpt (s k : Nat) (out : List Nat) : seenL s out ++ [(.optr s (k * 5), avb true)] = seenL s (out ++ [k]) := by simp [seenL]
theorem zly (s k : Nat) (out : List Nat) : ptrs s out ++ [.optr s (k * 5)] = ptrs s (out ++ [k]) := by simp [ptrs]
theorem zc2 (s : Nat) (out : List Nat) : cut (ptrs s out) 0 out.length = some (ptrs s out) := zcv _ (by simp [ptrs])
section
variable {code : Nat → Option XFun} {ext : Calls'}
def leadAV (s : Nat) : Option Nat → AV
 | some k => .optr s (k * 5)
 | none => .imm (.val (.pointer none))
def storeRow (T : List Obj) : List IV := tObj.row (T ++ [spObj])
theorem zqr {T : List Obj} {p : Nat} {o : Obj} (h : T[p]? = some o) : cut (storeRow T) (p * 5) 5 = some [.val (.int .u8 o.k), .val (.string o.s), o.l.iv, .val (.int .i64 o.room), .val (.int .i64 o.fn)] := by
 have hlt := (List.getElem?_eq_some_iff.1 h).1
 exact zfo (t := tObj) (i := p) (x := o) (by rw [List.getElem?_append_left hlt]; exact h)
theorem zh2 (h : code 651 = some x651) (T : List Obj) (hb : T.length ≤ 1048576) (v : Val) (hv : (tInt .i64).wf v.n) :
  callW code ext 651 [.osl 0 0 5 T.length (some (T.length + 1)), .agg [.imm (.val (.int .u8 v.k)), int64 v.n]] [.flat (storeRow T) false] = some (leadAV 0 (leadsOf T v), [.flat (storeRow T) false]) := by
 rw [zbr code ext h]
 unfold leadsOf
 by_cases c1 : v.k < 3
 ·simp -implicitDefEqProofs [x651, c1, leadAV]
 by_cases c2 : 7 < v.k
 ·simp -implicitDefEqProofs [x651, c1, c2, leadAV]
 by_cases c3 : v.n < 1
 ·simp -implicitDefEqProofs [x651, c1, c2, c3, leadAV]
 by_cases c4 : (T.length : Int) < v.n
 ·simp -implicitDefEqProofs [x651, c1, c2, c3, c4, leadAV]
 obtain ⟨vk, vn⟩ := v
 simp only at c1 c2 c3 c4 ⊢
 obtain ⟨p, rfl⟩ : ∃ p : Nat, vn = (p : Int) + 1 := ⟨(vn - 1).toNat, by omega⟩
 have hlt : p < T.length := by omega
 have hget := zqr (List.getElem?_eq_getElem hlt)
 have ep : ((p : Int) + 1 - 1).toNat = p := by omega
 rw [if_neg c1, if_neg c2, if_neg c3, if_neg c4, ep, List.getElem?_eq_getElem hlt]
 generalize T[p] = o at hget
 have g0 : (storeRow T)[p * 5]? = some (.val (.int .u8 o.k)) := zcy hget 0 (by omega)
 have e1 : IntKind.wrap .i64 (p : Int) = p := wrapI64 (by omega) (by omega)
 by_cases c5 : o.k = vk
 ·simp -implicitDefEqProofs [x651, c1, c2, c3, c4, e1, g0, c5, hlt, leadAV]
 ·simp -implicitDefEqProofs [x651, c1, c2, c3, c4, e1, g0, c5, hlt, leadAV]
end
end Go.EX


set_option linter.unusedVariables false
set_option linter.unusedSimpArgs false
namespace Go.EX
abbrev strV (b : ByteArray) : AV := .imm (.val (.string b))
structure TextCode (code : Nat → Option XFun) (ext : Calls') : Prop where
 c673 : code 673 = some x673
 c669 : code 669 = some x669
 c244 : code 244 = some x244
 n674 : code 674 = none
 e674 : ∀ a m, ext 674 a m = extCheck 674 674 a m
 n670 : code 670 = none
 e670 : ∀ a m, ext 670 a m = extStr 670 670 a m
 c785 : code 785 = some x785
 c786 : code 786 = some x786
 c709 : code 709 = some x709
 n708 : code 708 = none
 e708 : ∀ a m, ext 708 a m = extItoa 708 708 a m
section
variable {code : Nat → Option XFun} {ext : Calls'}
theorem zn4 (b : ByteArray) : (rowOfS b).length = b.size := by simp [rowOfS]
theorem zn3 (a b : ByteArray) : rowOfS (a ++ b) = rowOfS a ++ rowOfS b := by
 simp [rowOfS, ByteArray.data_append]
theorem zqd (a b : ByteArray) : (a ++ b).size = a.size + b.size := ByteArray.size_append
theorem zdz {b : ByteArray} (h : b.size = 0) : b = .empty := by
 cases b with
 | mk d =>
  have : d.size = 0 := h
  have : d = #[] := Array.eq_empty_of_size_eq_zero this
  subst this; rfl
def bAddr : Bool → AV
 | true => .optr 0 0
 | false => .seat 0 0
def bNil (used : Bool) (sv : IV) : Mem := [.rich [bAddr used, nilS, .imm sv]]
def bOne (sv : IV) (b : ByteArray) : Mem := [.rich [.optr 0 0, .osl 1 0 1 b.size none, .imm sv], .text (rowOfS b)]
def bTwo (sv : IV) (b : ByteArray) : Mem := [.rich [.optr 0 0, .osl 2 0 1 b.size none, .imm sv], .dead, .text (rowOfS b)]
theorem zb3 (c : TextCode code ext) (u : Bool) (sv : IV) : callW code ext 674 [.optr 0 0] (bNil u sv) = some (.tup [], bNil true sv) := by
 rw [zbq code ext c.n674 (by decide), c.e674]
 cases u <;> rfl
theorem zb4 (c : TextCode code ext) (sv : IV) (b : ByteArray) : callW code ext 674 [.optr 0 0] (bOne sv b) = some (.tup [], bOne sv b) := by
 rw [zbq code ext c.n674 (by decide), c.e674]
 rfl
theorem zs4 (c : TextCode code ext) (u : Bool) (sv : IV) : callW code ext 673 [.optr 0 0, strV .empty] (bNil u sv) = some (.tup [int64 0, .imm (.val .nilIface)], bNil true sv) := by
 have h := zb3 c u sv
 rw [zbr code ext c.c673]
 have e0 : elems (bNil true sv) 1 (strV .empty) = some (0, []) := rfl
 cases u <;> (simp only [bNil, bAddr] at h e0 ⊢; simp -implicitDefEqProofs [x673, h, exAppendS, elems, e0])
theorem zs3 (c : TextCode code ext) (u : Bool) (sv : IV) (x : ByteArray) (h0 : 0 < x.size) (hx : x.size ≤ 140737488355328) : callW code ext 673 [.optr 0 0, strV x] (bNil u sv) = some (.tup [int64 x.size, .imm (.val .nilIface)], bOne sv x) := by
 have h := zb3 c u sv
 rw [zbr code ext c.c673]
 have h1 : ¬ x.size = 0 := by omega
 have e0 : ∀ m, elems m 1 (strV x) = some (x.size, rowOfS x) := fun m => rfl
 cases u <;> (simp only [bNil, bAddr, bOne] at h ⊢; simp -implicitDefEqProofs [x673, h, exAppendS, e0, h1, hx])
theorem zs5 (c : TextCode code ext) (sv : IV) (b x : ByteArray) (h0 : 0 < b.size) (hx : b.size + x.size ≤ 140737488355328) : callW code ext 673 [.optr 0 0, strV x] (bOne sv b) = some (.tup [int64 x.size, .imm (.val .nilIface)], bTwo sv (b ++ x)) := by
 have h := zb4 c sv b
 rw [zbr code ext c.c673]
 have e0 : ∀ m, elems m 1 (strV x) = some (x.size, rowOfS x) := fun m => rfl
 have e1 := zn4 b
 simp only [bTwo, bOne, zqd, zn3] at h ⊢
 simp -implicitDefEqProofs [x673, h, exAppendS, e0, e1, h0, hx]
theorem zid (c : TextCode code ext) (u : Bool) (sv : IV) : callW code ext 669 [.optr 0 0] (bNil u sv) = some (int64 0, bNil u sv) := by
 rw [zbr code ext c.c669]
 cases u <;> (simp only [bNil, bAddr]; simp -implicitDefEqProofs [x669])
theorem zie (c : TextCode code ext) (sv : IV) (b : ByteArray) : callW code ext 669 [.optr 0 0] (bOne sv b) = some (int64 b.size, bOne sv b) := by
 rw [zbr code ext c.c669]
 simp only [bOne]
 simp -implicitDefEqProofs [x669]
theorem zim (c : TextCode code ext) (u : Bool) (sv : IV) : callW code ext 244 [.optr 0 0] (bNil u sv) = some (avb false, bNil u sv) := by
 have h := zid c u sv
 rw [zbr code ext c.c244]
 cases u <;> (simp only [bNil, bAddr] at h ⊢; simp -implicitDefEqProofs [x244, h])
theorem zin (c : TextCode code ext) (sv : IV) (b : ByteArray) : callW code ext 244 [.optr 0 0] (bOne sv b) = some (avb (decide (4096 < b.size)), bOne sv b) := by
 have h := zie c sv b
 rw [zbr code ext c.c244]
 simp only [bOne] at h ⊢
 simp -implicitDefEqProofs [x244, h]
 omega
end
end Go.EX


set_option linter.unusedVariables false
set_option linter.unusedSimpArgs false
namespace Go.EX
abbrev nilT : ByteArray := ⟨#[110, 105, 108]⟩
abbrev yesT : ByteArray := ⟨#[121, 101, 115]⟩
abbrev noT : ByteArray := ⟨#[110, 111]⟩
abbrev askT : ByteArray := ⟨#[63]⟩
abbrev fnT : ByteArray := ⟨#[102, 110, 32]⟩
abbrev dotsT : ByteArray := ⟨#[46, 46]⟩
abbrev openL : ByteArray := ⟨#[91]⟩
abbrev endL : ByteArray := ⟨#[93]⟩
abbrev openM : ByteArray := ⟨#[123]⟩
abbrev endM : ByteArray := ⟨#[125]⟩
abbrev keyT : ByteArray := ⟨#[58, 32]⟩
abbrev nextT : ByteArray := ⟨#[44, 32]⟩
abbrev lackT : ByteArray := ⟨#[58, 32, 110, 105, 108]⟩
def dig (n : Int) : ByteArray := ⟨(Go.Lib.itoa n).toArray⟩
def objOf (S : List Obj) (v : Val) : Option Obj := (leadsOf S v).bind fun k => S[k]?
def pieceOf (S : List Obj) (deep : Bool) (v : Val) : Option ByteArray :=
 if v.k = 0 then some nilT
 else if v.k = 1 then some (if v.n = 1 then yesT else noT)
 else if v.k = 2 then some (dig v.n)
 else match objOf S v with
  | none => some askT
  | some o => if v.k = 7 then some askT else if v.k = 3 then some o.s else if v.k = 6 then some (fnT ++ dig o.fn) else if deep then some dotsT else none
def itemsV (f : Val → ByteArray → ByteArray) (m : Bool) : List Val → Nat → ByteArray → ByteArray × Bool
 | [], _, c => (c, false)
 | v :: r, i, c => if 4096 < c.size then (c, true) else itemsV f m r (i + 1) (f v (if m = true ∧ i % 2 = 1 then c ++ keyT else if 0 < i then c ++ nextT else c))
def rowV (f : Val → ByteArray → ByteArray) (o : Obj) (c : ByteArray) : ByteArray :=
 let m := decide (o.k = 5)
 let p := itemsV f m o.l.xs 0 (c ++ if m then openM else openL)
 if p.2 then p.1 else (if m = true ∧ o.l.xs.length % 2 = 1 then p.1 ++ lackT else p.1) ++ if m then endM else endL
def tellV (S : List Obj) : Nat → Val → ByteArray → ByteArray
 | d, v, c => match pieceOf S (d == 0) v with
  | some x => c ++ x
  | none => match d, objOf S v with
   | d + 1, some o => rowV (tellV S d) o c
   | _, _ => c
section
variable {code : Nat → Option XFun} {ext : Calls'}
theorem zh0 (h : code 651 = some x651) {sv : IV} {S : List Obj} (hr : Reads tObj sv S) (v : Val) (hv : (tInt .i64).wf v.n) :
  (leadsOf S v = none ∧ callW code ext 651 [.imm sv, .agg [.imm (.val (.int .u8 v.k)), int64 v.n]] [] = some (.imm (.val (.pointer none)), [])) ∨
  ∃ k o row off, leadsOf S v = some k ∧ S[k]? = some o ∧ cut row off 5 = some [.val (.int .u8 o.k), .val (.string o.s), o.l.iv, .val (.int .i64 o.room), .val (.int .i64 o.fn)] ∧
   callW code ext 651 [.imm sv, .agg [.imm (.val (.int .u8 v.k)), int64 v.n]] [] = some (.imm (.ptr row off), []) := by
 rw [zbr code ext h]
 have hlen := zms hr
 have hb := hr.2.1
 unfold leadsOf
 by_cases c1 : v.k < 3
 ·left; exact ⟨by simp [c1], by simp -implicitDefEqProofs [x651, c1]⟩
 by_cases c2 : 7 < v.k
 ·left; exact ⟨by simp [c1, c2], by simp -implicitDefEqProofs [x651, c1, c2]⟩
 by_cases c3 : v.n < 1
 ·left; exact ⟨by simp [c1, c2, c3], by simp -implicitDefEqProofs [x651, c1, c2, c3]⟩
 by_cases c4 : (S.length : Int) < v.n
 ·left; exact ⟨by simp [c1, c2, c3, c4], by simp -implicitDefEqProofs [x651, c1, c2, c3, c4, hlen]⟩
 obtain ⟨vk, vn⟩ := v
 simp only at c1 c2 c3 c4 hv ⊢
 obtain ⟨p, rfl⟩ : ∃ p : Nat, vn = (p : Int) + 1 := ⟨(vn - 1).toNat, by omega⟩
 have hlt : p < S.length := by omega
 obtain ⟨row, off, cap, rfl, hc, hcut, hget⟩ := zmt hr (List.getElem?_eq_getElem hlt)
 have ep : ((p : Int) + 1 - 1).toNat = p := by omega
 rw [if_neg c1, if_neg c2, if_neg c3, if_neg c4, ep, List.getElem?_eq_getElem hlt]
 have hse : S[p]? = some S[p] := List.getElem?_eq_getElem hlt
 generalize S[p] = o at hget hse
 simp only [tObj] at hget
 have g0 : row[off + p * 5]? = some (.val (.int .u8 o.k)) := zcy hget 0 (by omega)
 have e1 : IntKind.wrap .i64 (p : Int) = p := wrapI64 (by omega) (by omega)
 by_cases c5 : o.k = vk
 ·right
  refine ⟨p, o, row, off + p * 5, by simp [c5], hse, hget, ?_⟩
  simp -implicitDefEqProofs [x651, c1, c2, c3, c4, hlen, e1, g0, c5, hlt]
 ·left
  exact ⟨by simp [c5], by simp -implicitDefEqProofs [x651, c1, c2, c3, c4, hlen, e1, g0, c5, hlt]⟩
end
end Go.EX


set_option maxHeartbeats 4000000
set_option linter.unusedVariables false
set_option linter.unusedSimpArgs false
namespace Go.EX
section
variable {code : Nat → Option XFun} {ext : Calls'}
theorem zfu (c : TextCode code ext) (n : Int) (hn : (tInt .i64).wf n) : callW code ext 785 [int64 n, int64 10] [] = some (strV (dig n), []) := by
 obtain ⟨h0, h1⟩ := wfI64.1 hn
 have h : callW code ext 708 [int64 n, int64 10] [] = some (strV (dig n), []) := by
  rw [zbq code ext c.n708 (by decide), c.e708]
  simp [extItoa, h0, h1, dig]
 rw [zbr code ext c.c785]
 simp -implicitDefEqProofs [x785, h]
theorem zhg (c : TextCode code ext) (n : Int) (hn : (tInt .i64).wf n) : callW code ext 786 [int64 n] [] = some (strV (dig n), []) := by
 obtain ⟨h0, h1⟩ := wfI64.1 hn
 have h : callW code ext 708 [int64 n, int64 10] [] = some (strV (dig n), []) := by
  rw [zbq code ext c.n708 (by decide), c.e708]
  simp [extItoa, h0, h1, dig]
 have h2 : callW code ext 709 [int64 n] [] = some (strV (dig n), []) := by
  rw [zbr code ext c.c709]
  simp -implicitDefEqProofs [x709, h]
 rw [zbr code ext c.c786]
 simp -implicitDefEqProofs [x786, h2]
theorem zsq (c : TextCode code ext) (h : code 651 = some x651) (h246 : code 246 = some x246) {sv : IV} {S : List Obj} (hr : Reads tObj sv S) (v : Val) (hv : tVal.wf v) (inn : Int) (b : ByteArray) (x : ByteArray)
  (hp : pieceOf S (decide (8 < inn)) v = some x) {nw : Int} (hw : callW code ext 673 [.optr 0 0, strV x] (bOne sv b) = some (.tup [int64 nw, .imm (.val .nilIface)], bTwo sv (b ++ x))) (hfn : ∀ o ∈ S, (tInt .i64).wf o.fn) (hsz : x.size ≤ 9223372036854775807) :
  callW code ext 246 [.optr 0 0, .agg [.imm (.val (.int .u8 v.k)), int64 v.n], int64 inn] (bOne sv b) = some (.tup [], bTwo sv (b ++ x)) := by
 have hld := zh0 (ext := ext) h hr v hv.2
 have hfm := zfu c v.n hv.2
 rw [zbr code ext h246]
 simp only [bOne, bTwo] at hw ⊢
 obtain ⟨vk, vn⟩ := v
 simp only at hld hfm hp ⊢
 unfold pieceOf objOf at hp
 by_cases k0 : vk = 0
 ·subst k0
  simp at hp; subst hp
  rcases hld with ⟨_, hl⟩ | ⟨k, o, row, off, _, _, _, hl⟩ <;> simp -implicitDefEqProofs [x246, hl, hw]
 by_cases k1 : vk = 1
 ·subst k1
  by_cases hn : vn = 1
  ·subst hn
   simp at hp; subst hp
   rcases hld with ⟨_, hl⟩ | ⟨k, o, row, off, _, _, _, hl⟩ <;> simp -implicitDefEqProofs [x246, hl, hw]
  ·simp [hn] at hp; subst hp
   rcases hld with ⟨_, hl⟩ | ⟨k, o, row, off, _, _, _, hl⟩ <;> simp -implicitDefEqProofs [x246, hl, hw, hn]
 by_cases k2 : vk = 2
 ·subst k2
  simp at hp; subst hp
  rcases hld with ⟨_, hl⟩ | ⟨k, o, row, off, _, _, _, hl⟩ <;> simp -implicitDefEqProofs [x246, hl, hw, hfm]
 rcases hld with ⟨hn, hl⟩ | ⟨k, o, row, off, hle, hso, hget, hl⟩
 ·simp [k0, k1, k2, hn] at hp; subst hp
  simp -implicitDefEqProofs [x246, hl, hw, k0, k1, k2]
 have hof := hfn o (List.mem_of_getElem? hso)
 have hit := zhg c o.fn hof
 have g0 : row[off]? = some (.val (.int .u8 o.k)) := by simpa using zcy hget 0 (by omega)
 have g1 : row[off + 1]? = some (.val (.string o.s)) := zcy hget 1 (by omega)
 have g4 : row[off + 4]? = some (.val (.int .i64 o.fn)) := zcy hget 4 (by omega)
 simp only [hle, Option.bind_some, hso, k0, k1, k2, if_false] at hp
 by_cases k7 : vk = 7
 ·subst k7
  simp at hp; subst hp
  simp -implicitDefEqProofs [x246, hl, hw]
 by_cases k3 : vk = 3
 ·subst k3
  simp at hp; subst hp
  simp -implicitDefEqProofs [x246, hl, hw, g1]
 by_cases k6 : vk = 6
 ·subst k6
  simp at hp; subst hp
  have hs1 : fnT.size + (dig o.fn).size ≤ 9223372036854775807 := by rw [← zqd]; exact hsz
  simp -implicitDefEqProofs [x246, hl, hw, g4, hit, hs1]
 by_cases hd : (8 : Int) < inn
 ·simp [k7, k3, k6, hd] at hp; subst hp
  simp -implicitDefEqProofs [x246, hl, hw, k0, k1, k2, k7, k3, k6, hd]
 ·simp [k7, k3, k6, hd] at hp
theorem zso (c : TextCode code ext) (h : code 651 = some x651) (h246 : code 246 = some x246) {sv : IV} {S : List Obj} (hr : Reads tObj sv S) (v : Val) (hv : tVal.wf v) (inn : Int) (u : Bool) (x : ByteArray)
  (hp : pieceOf S (decide (8 < inn)) v = some x) {nw : Int} (hw : callW code ext 673 [.optr 0 0, strV x] (bNil u sv) = some (.tup [int64 nw, .imm (.val .nilIface)], bOne sv x)) (hfn : ∀ o ∈ S, (tInt .i64).wf o.fn) (hsz : x.size ≤ 9223372036854775807) :
  callW code ext 246 [.optr 0 0, .agg [.imm (.val (.int .u8 v.k)), int64 v.n], int64 inn] (bNil u sv) = some (.tup [], bOne sv x) := by
 have hld := zh0 (ext := ext) h hr v hv.2
 have hfm := zfu c v.n hv.2
 rw [zbr code ext h246]
 simp only [bNil, bAddr, bOne] at hw ⊢
 obtain ⟨vk, vn⟩ := v
 simp only at hld hfm hp ⊢
 unfold pieceOf objOf at hp
 cases u <;> simp only [] at hw ⊢
 all_goals
  by_cases k0 : vk = 0
  ·subst k0
   simp at hp; subst hp
   rcases hld with ⟨_, hl⟩ | ⟨k, o, row, off, _, _, _, hl⟩ <;> simp -implicitDefEqProofs [x246, hl, hw]
  by_cases k1 : vk = 1
  ·subst k1
   by_cases hn : vn = 1
   ·subst hn
    simp at hp; subst hp
    rcases hld with ⟨_, hl⟩ | ⟨k, o, row, off, _, _, _, hl⟩ <;> simp -implicitDefEqProofs [x246, hl, hw]
   ·simp [hn] at hp; subst hp
    rcases hld with ⟨_, hl⟩ | ⟨k, o, row, off, _, _, _, hl⟩ <;> simp -implicitDefEqProofs [x246, hl, hw, hn]
  by_cases k2 : vk = 2
  ·subst k2
   simp at hp; subst hp
   rcases hld with ⟨_, hl⟩ | ⟨k, o, row, off, _, _, _, hl⟩ <;> simp -implicitDefEqProofs [x246, hl, hw, hfm]
  rcases hld with ⟨hn, hl⟩ | ⟨k, o, row, off, hle, hso, hget, hl⟩
  ·simp [k0, k1, k2, hn] at hp; subst hp
   simp -implicitDefEqProofs [x246, hl, hw, k0, k1, k2]
  have hof := hfn o (List.mem_of_getElem? hso)
  have hit := zhg c o.fn hof
  have g0 : row[off]? = some (.val (.int .u8 o.k)) := by simpa using zcy hget 0 (by omega)
  have g1 : row[off + 1]? = some (.val (.string o.s)) := zcy hget 1 (by omega)
  have g4 : row[off + 4]? = some (.val (.int .i64 o.fn)) := zcy hget 4 (by omega)
  simp only [hle, Option.bind_some, hso, k0, k1, k2, if_false] at hp
  by_cases k7 : vk = 7
  ·subst k7
   simp at hp; subst hp
   simp -implicitDefEqProofs [x246, hl, hw]
  by_cases k3 : vk = 3
  ·subst k3
   simp at hp; subst hp
   simp -implicitDefEqProofs [x246, hl, hw, g1]
  by_cases k6 : vk = 6
  ·subst k6
   simp at hp; subst hp
   have hs1 : fnT.size + (dig o.fn).size ≤ 9223372036854775807 := by rw [← zqd]; exact hsz
   simp -implicitDefEqProofs [x246, hl, hw, g4, hit, hs1]
  by_cases hd : (8 : Int) < inn
  ·simp [k7, k3, k6, hd] at hp; subst hp
   simp -implicitDefEqProofs [x246, hl, hw, k0, k1, k2, k7, k3, k6, hd]
  ·simp [k7, k3, k6, hd] at hp
theorem zsp (c : TextCode code ext) (h : code 651 = some x651) (h246 : code 246 = some x246) {sv : IV} {S : List Obj} (hr : Reads tObj sv S) (v : Val) (hv : tVal.wf v) (inn : Int) (u : Bool) (x : ByteArray)
  (hp : pieceOf S (decide (8 < inn)) v = some x) {nw : Int} (hw : callW code ext 673 [.optr 0 0, strV x] (bNil u sv) = some (.tup [int64 nw, .imm (.val .nilIface)], bNil true sv)) (hfn : ∀ o ∈ S, (tInt .i64).wf o.fn) (hsz : x.size ≤ 9223372036854775807) :
  callW code ext 246 [.optr 0 0, .agg [.imm (.val (.int .u8 v.k)), int64 v.n], int64 inn] (bNil u sv) = some (.tup [], bNil true sv) := by
 have hld := zh0 (ext := ext) h hr v hv.2
 have hfm := zfu c v.n hv.2
 rw [zbr code ext h246]
 simp only [bNil, bAddr] at hw ⊢
 obtain ⟨vk, vn⟩ := v
 simp only at hld hfm hp ⊢
 unfold pieceOf objOf at hp
 cases u <;> simp only [] at hw ⊢
 all_goals
  by_cases k0 : vk = 0
  ·subst k0
   simp at hp; subst hp
   rcases hld with ⟨_, hl⟩ | ⟨k, o, row, off, _, _, _, hl⟩ <;> simp -implicitDefEqProofs [x246, hl, hw]
  by_cases k1 : vk = 1
  ·subst k1
   by_cases hn : vn = 1
   ·subst hn
    simp at hp; subst hp
    rcases hld with ⟨_, hl⟩ | ⟨k, o, row, off, _, _, _, hl⟩ <;> simp -implicitDefEqProofs [x246, hl, hw]
   ·simp [hn] at hp; subst hp
    rcases hld with ⟨_, hl⟩ | ⟨k, o, row, off, _, _, _, hl⟩ <;> simp -implicitDefEqProofs [x246, hl, hw, hn]
  by_cases k2 : vk = 2
  ·subst k2
   simp at hp; subst hp
   rcases hld with ⟨_, hl⟩ | ⟨k, o, row, off, _, _, _, hl⟩ <;> simp -implicitDefEqProofs [x246, hl, hw, hfm]
  rcases hld with ⟨hn, hl⟩ | ⟨k, o, row, off, hle, hso, hget, hl⟩
  ·simp [k0, k1, k2, hn] at hp; subst hp
   simp -implicitDefEqProofs [x246, hl, hw, k0, k1, k2]
  have hof := hfn o (List.mem_of_getElem? hso)
  have hit := zhg c o.fn hof
  have g0 : row[off]? = some (.val (.int .u8 o.k)) := by simpa using zcy hget 0 (by omega)
  have g1 : row[off + 1]? = some (.val (.string o.s)) := zcy hget 1 (by omega)
  have g4 : row[off + 4]? = some (.val (.int .i64 o.fn)) := zcy hget 4 (by omega)
  simp only [hle, Option.bind_some, hso, k0, k1, k2, if_false] at hp
  by_cases k7 : vk = 7
  ·subst k7
   simp at hp; subst hp
   simp -implicitDefEqProofs [x246, hl, hw]
  by_cases k3 : vk = 3
  ·subst k3
   simp at hp; subst hp
   simp -implicitDefEqProofs [x246, hl, hw, g1]
  by_cases k6 : vk = 6
  ·subst k6
   simp at hp; subst hp
   have hs1 : fnT.size + (dig o.fn).size ≤ 9223372036854775807 := by rw [← zqd]; exact hsz
   simp -implicitDefEqProofs [x246, hl, hw, g4, hit, hs1]
  by_cases hd : (8 : Int) < inn
  ·simp [k7, k3, k6, hd] at hp; subst hp
   simp -implicitDefEqProofs [x246, hl, hw, k0, k1, k2, k7, k3, k6, hd]
  ·simp [k7, k3, k6, hd] at hp
end
end Go.EX


set_option maxHeartbeats 4000000
set_option linter.unusedVariables false
set_option linter.unusedSimpArgs false
namespace Go.EX
section
variable {code : Nat → Option XFun} {ext : Calls'}
theorem q_add (k : IntKind) (a b : Int) : intBin .add k a b = some (.int k (k.wrap (a + b))) := rfl
theorem q_eql (k : IntKind) (a b : Int) : intBin .eql k a b = some (.bool (a == b)) := rfl
theorem q_lss (k : IntKind) (a b : Int) : intBin .lss k a b = some (.bool (a < b)) := rfl
theorem q_gtr (k : IntKind) (a b : Int) : intBin .gtr k a b = some (.bool (a > b)) := rfl
theorem tmod2 (i : Nat) : intBin .rem .i64 (i : Int) 2 = some (.int .i64 ((i % 2 : Nat) : Int)) := by
 simp only [intBin]
 rw [if_neg (by decide), Int.tmod_eq_emod_of_nonneg (by omega)]
 simp
structure ItemOK (code : Nat → Option XFun) (ext : Calls') (sv : IV) (inn : Int) (f : Val → ByteArray → ByteArray) (xs : List Val) (B : Nat) : Prop where
 call : ∀ v ∈ xs, ∀ c : ByteArray, 0 < c.size → c.size ≤ 5000 → callW code ext 246 [.optr 0 0, .agg [.imm (.val (.int .u8 v.k)), int64 v.n], int64 inn] (bOne sv c) = some (.tup [], bTwo sv (f v c))
 pos : ∀ v ∈ xs, ∀ c : ByteArray, 0 < c.size → 0 < (f v c).size
 size : ∀ v ∈ xs, ∀ c : ByteArray, c.size ≤ 5000 → (f v c).size ≤ B
theorem zhp (c : ByteArray) : (c ++ keyT).size = c.size + 2 := zqd c keyT
theorem zjc (c : ByteArray) : (c ++ nextT).size = c.size + 2 := zqd c nextT
theorem zhe (c : TextCode code ext) {sv : IV} {inn : Int} (hinn : 0 ≤ inn ∧ inn ≤ 100) {f : Val → ByteArray → ByteArray} {o : Obj} {B : Nat} (hB : B ≤ 100000000) (hI : ItemOK code ext sv (inn + 1) f o.l.xs B) (hl : o.l.xs.length ≤ 1000000) {row : List IV} {off : Nat} (g0 : row[off]? = some (.val (.int .u8 o.k))) (en : ByteArray) (c0 : ByteArray) (h0 : 0 < c0.size) (hB0 : c0.size ≤ B) :
  ∃ e s', den code ext (.loop [0, 1, 2, 7, 23, 24, 25] x245L1) ⟨2, [(0, .optr 0 0), (1, .imm (.ptr row off)), (2, int64 inn), (7, strV en), (23, .imm o.l.iv), (24, int64 o.l.xs.length), (25, int64 0)], bTwo sv c0⟩ = some (e, s') ∧ e ≠ .normal ∧
   ((e = .ret ∧ leave s' x245 = some (.tup [], bTwo sv (itemsV f (decide (o.k = 5)) o.l.xs 0 c0).1) ∧ (itemsV f (decide (o.k = 5)) o.l.xs 0 c0).2 = true) ∨
    (e = .exit 0 ∧ s' = ⟨2, [(0, .optr 0 0), (1, .imm (.ptr row off)), (2, int64 inn), (7, strV en), (23, .imm o.l.iv), (24, int64 o.l.xs.length), (25, int64 o.l.xs.length), (26, avb false)], bTwo sv (itemsV f (decide (o.k = 5)) o.l.xs 0 c0).1⟩ ∧ (itemsV f (decide (o.k = 5)) o.l.xs 0 c0).2 = false ∧ 0 < (itemsV f (decide (o.k = 5)) o.l.xs 0 c0).1.size ∧ (itemsV f (decide (o.k = 5)) o.l.xs 0 c0).1.size ≤ B)) := by
 have hr := o.l.ok
 have hlen := zms hr
 refine zir (fun n s => ∃ (i : Nat) (b : ByteArray), i + n = o.l.xs.length ∧ 0 < b.size ∧ b.size ≤ B ∧ itemsV f (decide (o.k = 5)) o.l.xs 0 c0 = itemsV f (decide (o.k = 5)) (o.l.xs.drop i) i b ∧
  s.tidy [0, 1, 2, 7, 23, 24, 25] = ⟨2, [(0, .optr 0 0), (1, .imm (.ptr row off)), (2, int64 inn), (7, strV en), (23, .imm o.l.iv), (24, int64 o.l.xs.length), (25, int64 (i : Nat))], bTwo sv b⟩) _ ?_ o.l.xs.length _ ⟨0, c0, by omega, h0, hB0, by simp, by simp only [bTwo]; simp -implicitDefEqProofs⟩
 rintro n s ⟨i, b, hi, hb, hbB, hg, hst⟩
 rw [hst, hg]
 by_cases hlt : i < o.l.xs.length
 ·have hx : o.l.xs[i]? = some o.l.xs[i] := List.getElem?_eq_getElem hlt
  have hmem : o.l.xs[i] ∈ o.l.xs := List.getElem_mem hlt
  obtain ⟨r2, o2, cap, hiv, hc, hcut, hget⟩ := zmt hr hx
  rw [List.drop_eq_getElem_cons hlt, itemsV] at *
  generalize o.l.xs[i] = v at hget hmem hg
  simp only [tVal] at hget
  have e1 : IntKind.wrap .i64 ((i : Int) + 1) = (i : Int) + 1 := wrapI64 (by omega) (by omega)
  have e2 : IntKind.wrap .i64 (inn + 1) = inn + 1 := wrapI64 (by omega) (by omega)
  have hlg := zin c sv b
  rw [hiv]
  generalize o.l.iv = liv at *
  by_cases h4 : 4096 < b.size
  ·rw [if_pos h4]
   simp only [bOne, bTwo, h4, decide_true] at hlg ⊢
   refine ⟨.ret, _, by simp -implicitDefEqProofs [x245L1, hlt, hget, hlg]; rfl, .inr ⟨by simp, .inl ⟨rfl, by simp -implicitDefEqProofs [x245], by simp⟩⟩⟩
  ·rw [if_neg h4]
   have hm2 := tmod2 i
   have hlf : decide (4096 < b.size) = false := by simpa using h4
   rw [hlf] at hlg
   have step : ∀ x : ByteArray, x.size ≤ 2 → (hv : callW code ext 246 [.optr 0 0, .agg [.imm (.val (.int .u8 v.k)), int64 v.n], int64 (inn + 1)] (bOne sv (b ++ x)) = some (.tup [], bTwo sv (f v (b ++ x)))) → True := fun _ _ _ => trivial
   by_cases hk : o.k = 5 ∧ i % 2 = 1
   ·have hw := zs5 c sv b keyT hb (by have : keyT.size = 2 := rfl; omega)
    have hv := hI.call v hmem (b ++ keyT) (by rw [zhp]; omega) (by rw [zhp]; omega)
    have hp := hI.pos v hmem (b ++ keyT) (by rw [zhp]; omega)
    have hs := hI.size v hmem (b ++ keyT) (by rw [zhp]; omega)
    obtain ⟨hk5, hodd⟩ := hk
    rw [hk5] at g0
    rw [hodd] at hm2
    simp only [hk5, decide_true, hodd, and_self, if_true] at *
    generalize f v (b ++ keyT) = b2 at *
    simp only [bOne, bTwo, ByteArray.size_append] at hlg hw hv ⊢
    refine ⟨.normal, _, by simp -implicitDefEqProofs [-intBin, q_lss, q_add, q_eql, x245L1, hlt, hget, hlg, g0, hm2, hw, hv, e1, e2]; rfl, .inl ⟨rfl, n - 1, by omega, i + 1, b2, by omega, hp, hs, rfl, by simp -implicitDefEqProofs⟩⟩
   ·by_cases h00 : 0 < i
    ·have hw := zs5 c sv b nextT hb (by have : nextT.size = 2 := rfl; omega)
     have hv := hI.call v hmem (b ++ nextT) (by rw [zjc]; omega) (by rw [zjc]; omega)
     have hp := hI.pos v hmem (b ++ nextT) (by rw [zjc]; omega)
     have hs := hI.size v hmem (b ++ nextT) (by rw [zjc]; omega)
     have h00' : (0 : Int) < i := by omega
     by_cases hk5 : o.k = 5
     ·have heven : i % 2 = 0 := by have : ¬ i % 2 = 1 := fun h => hk ⟨hk5, h⟩; omega
      rw [hk5] at g0
      rw [heven] at hm2
      simp only [hk5, decide_true, heven, h00, if_true] at *
      simp only [show ¬ (0 = 1) by decide, and_false, if_false] at *
      have h01 : 0 < i := by omega
      generalize f v (b ++ nextT) = b2 at *
      simp only [bOne, bTwo, ByteArray.size_append] at hlg hw hv ⊢
      refine ⟨.normal, _, by simp -implicitDefEqProofs [-intBin, q_lss, q_gtr, q_add, q_eql, x245L1, hlt, hget, hlg, g0, hm2, hw, hv, e1, e2, h01, h00']; rfl, .inl ⟨rfl, n - 1, by omega, i + 1, b2, by omega, hp, hs, rfl, by simp -implicitDefEqProofs⟩⟩
     ·have hkd : decide (o.k = 5) = false := by simpa using hk5
      rw [hkd] at *
      simp only [h00, if_true, Bool.false_eq_true, false_and, if_false] at *
      have h01 : 0 < i := by omega
      generalize f v (b ++ nextT) = b2 at *
      simp only [bOne, bTwo, ByteArray.size_append] at hlg hw hv ⊢
      refine ⟨.normal, _, by simp -implicitDefEqProofs [-intBin, q_lss, q_gtr, q_add, q_eql, x245L1, hlt, hget, hlg, g0, hk5, hw, hv, e1, e2, h01, h00']; rfl, .inl ⟨rfl, n - 1, by omega, i + 1, b2, by omega, hp, hs, rfl, by simp -implicitDefEqProofs⟩⟩
    ·have h00' : ¬ (0 : Int) < i := by omega
     have hi0 : i = 0 := by omega
     subst hi0
     have hv := hI.call v hmem b (by omega) (by omega)
     have hp := hI.pos v hmem b (by omega)
     have hs := hI.size v hmem b (by omega)
     have hno : ¬ (decide (o.k = 5) = true ∧ 0 % 2 = 1) := by simp
     rw [if_neg hno, if_neg h00]
     simp only [Nat.zero_mul, Nat.add_zero] at hget
     have hm0 : intBin .rem .i64 0 2 = some (.int .i64 0) := rfl
     have e10 : IntKind.wrap .i64 1 = 1 := rfl
     generalize f v b = b2 at *
     simp only [bOne, bTwo] at hlg hv ⊢
     by_cases hk5 : o.k = 5
     ·rw [hk5] at g0
      refine ⟨.normal, _, by simp -implicitDefEqProofs [-intBin, q_lss, q_gtr, q_add, q_eql, x245L1, hlt, hget, hlg, g0, hm0, hv, e10, e2]; rfl, .inl ⟨rfl, n - 1, by omega, 1, b2, by omega, hp, hs, rfl, by simp -implicitDefEqProofs⟩⟩
     ·refine ⟨.normal, _, by simp -implicitDefEqProofs [-intBin, q_lss, q_gtr, q_add, q_eql, x245L1, hlt, hget, hlg, g0, hk5, hv, e10, e2]; rfl, .inl ⟨rfl, n - 1, by omega, 1, b2, by omega, hp, hs, rfl, by simp -implicitDefEqProofs⟩⟩
 ·have hie : i = o.l.xs.length := by omega
  subst hie
  rw [List.drop_eq_nil_of_le (Nat.le_refl _), itemsV]
  simp only [bTwo]
  refine ⟨.exit 0, _, by simp -implicitDefEqProofs [x245L1], .inr ⟨by simp, .inr ⟨rfl, rfl, by simp, hb, hbB⟩⟩⟩
theorem zhb (c : TextCode code ext) {sv : IV} {inn : Int} (hinn : 0 ≤ inn ∧ inn ≤ 100) {f : Val → ByteArray → ByteArray} {o : Obj} {B : Nat} (hB : B ≤ 100000000) (hI : ItemOK code ext sv (inn + 1) f o.l.xs B) (hl : o.l.xs.length ≤ 1000000) {row : List IV} {off : Nat} (g0 : row[off]? = some (.val (.int .u8 o.k))) (en : ByteArray) (c0 : ByteArray) (h0 : 0 < c0.size) (hB0 : c0.size ≤ B) :
  ∃ e s', den code ext (.loop [0, 1, 2, 7, 23, 24, 25] x245L1) ⟨1, [(0, .optr 0 0), (1, .imm (.ptr row off)), (2, int64 inn), (7, strV en), (23, .imm o.l.iv), (24, int64 o.l.xs.length), (25, int64 0)], bOne sv c0⟩ = some (e, s') ∧ e ≠ .normal ∧
   ((e = .ret ∧ leave s' x245 = some (.tup [], bOne sv (itemsV f (decide (o.k = 5)) o.l.xs 0 c0).1) ∧ (itemsV f (decide (o.k = 5)) o.l.xs 0 c0).2 = true) ∨
    (e = .exit 0 ∧ s' = ⟨1, [(0, .optr 0 0), (1, .imm (.ptr row off)), (2, int64 inn), (7, strV en), (23, .imm o.l.iv), (24, int64 o.l.xs.length), (25, int64 o.l.xs.length), (26, avb false)], bOne sv (itemsV f (decide (o.k = 5)) o.l.xs 0 c0).1⟩ ∧ (itemsV f (decide (o.k = 5)) o.l.xs 0 c0).2 = false ∧ 0 < (itemsV f (decide (o.k = 5)) o.l.xs 0 c0).1.size ∧ (itemsV f (decide (o.k = 5)) o.l.xs 0 c0).1.size ≤ B)) := by
 have hr := o.l.ok
 have hlen := zms hr
 refine zir (fun n s => ∃ (i : Nat) (b : ByteArray), i + n = o.l.xs.length ∧ 0 < b.size ∧ b.size ≤ B ∧ itemsV f (decide (o.k = 5)) o.l.xs 0 c0 = itemsV f (decide (o.k = 5)) (o.l.xs.drop i) i b ∧
  s.tidy [0, 1, 2, 7, 23, 24, 25] = ⟨1, [(0, .optr 0 0), (1, .imm (.ptr row off)), (2, int64 inn), (7, strV en), (23, .imm o.l.iv), (24, int64 o.l.xs.length), (25, int64 (i : Nat))], bOne sv b⟩) _ ?_ o.l.xs.length _ ⟨0, c0, by omega, h0, hB0, by simp, by simp only [bOne]; simp -implicitDefEqProofs⟩
 rintro n s ⟨i, b, hi, hb, hbB, hg, hst⟩
 rw [hst, hg]
 by_cases hlt : i < o.l.xs.length
 ·have hx : o.l.xs[i]? = some o.l.xs[i] := List.getElem?_eq_getElem hlt
  have hmem : o.l.xs[i] ∈ o.l.xs := List.getElem_mem hlt
  obtain ⟨r2, o2, cap, hiv, hc, hcut, hget⟩ := zmt hr hx
  rw [List.drop_eq_getElem_cons hlt, itemsV] at *
  generalize o.l.xs[i] = v at hget hmem hg
  simp only [tVal] at hget
  have e1 : IntKind.wrap .i64 ((i : Int) + 1) = (i : Int) + 1 := wrapI64 (by omega) (by omega)
  have e2 : IntKind.wrap .i64 (inn + 1) = inn + 1 := wrapI64 (by omega) (by omega)
  have hlg := zin c sv b
  rw [hiv]
  generalize o.l.iv = liv at *
  by_cases h4 : 4096 < b.size
  ·rw [if_pos h4]
   simp only [bOne, bTwo, h4, decide_true] at hlg ⊢
   refine ⟨.ret, _, by simp -implicitDefEqProofs [x245L1, hlt, hget, hlg]; rfl, .inr ⟨by simp, .inl ⟨rfl, by simp -implicitDefEqProofs [x245], by simp⟩⟩⟩
  ·rw [if_neg h4]
   have hm2 := tmod2 i
   have hlf : decide (4096 < b.size) = false := by simpa using h4
   rw [hlf] at hlg
   have step : ∀ x : ByteArray, x.size ≤ 2 → (hv : callW code ext 246 [.optr 0 0, .agg [.imm (.val (.int .u8 v.k)), int64 v.n], int64 (inn + 1)] (bOne sv (b ++ x)) = some (.tup [], bTwo sv (f v (b ++ x)))) → True := fun _ _ _ => trivial
   by_cases hk : o.k = 5 ∧ i % 2 = 1
   ·have hw := zs5 c sv b keyT hb (by have : keyT.size = 2 := rfl; omega)
    have hv := hI.call v hmem (b ++ keyT) (by rw [zhp]; omega) (by rw [zhp]; omega)
    have hp := hI.pos v hmem (b ++ keyT) (by rw [zhp]; omega)
    have hs := hI.size v hmem (b ++ keyT) (by rw [zhp]; omega)
    obtain ⟨hk5, hodd⟩ := hk
    rw [hk5] at g0
    rw [hodd] at hm2
    simp only [hk5, decide_true, hodd, and_self, if_true] at *
    generalize f v (b ++ keyT) = b2 at *
    simp only [bOne, bTwo, ByteArray.size_append] at hlg hw hv ⊢
    refine ⟨.normal, _, by simp -implicitDefEqProofs [-intBin, q_lss, q_add, q_eql, x245L1, hlt, hget, hlg, g0, hm2, hw, hv, e1, e2]; rfl, .inl ⟨rfl, n - 1, by omega, i + 1, b2, by omega, hp, hs, rfl, by simp -implicitDefEqProofs⟩⟩
   ·by_cases h00 : 0 < i
    ·have hw := zs5 c sv b nextT hb (by have : nextT.size = 2 := rfl; omega)
     have hv := hI.call v hmem (b ++ nextT) (by rw [zjc]; omega) (by rw [zjc]; omega)
     have hp := hI.pos v hmem (b ++ nextT) (by rw [zjc]; omega)
     have hs := hI.size v hmem (b ++ nextT) (by rw [zjc]; omega)
     have h00' : (0 : Int) < i := by omega
     by_cases hk5 : o.k = 5
     ·have heven : i % 2 = 0 := by have : ¬ i % 2 = 1 := fun h => hk ⟨hk5, h⟩; omega
      rw [hk5] at g0
      rw [heven] at hm2
      simp only [hk5, decide_true, heven, h00, if_true] at *
      simp only [show ¬ (0 = 1) by decide, and_false, if_false] at *
      have h01 : 0 < i := by omega
      generalize f v (b ++ nextT) = b2 at *
      simp only [bOne, bTwo, ByteArray.size_append] at hlg hw hv ⊢
      refine ⟨.normal, _, by simp -implicitDefEqProofs [-intBin, q_lss, q_gtr, q_add, q_eql, x245L1, hlt, hget, hlg, g0, hm2, hw, hv, e1, e2, h01, h00']; rfl, .inl ⟨rfl, n - 1, by omega, i + 1, b2, by omega, hp, hs, rfl, by simp -implicitDefEqProofs⟩⟩
     ·have hkd : decide (o.k = 5) = false := by simpa using hk5
      rw [hkd] at *
      simp only [h00, if_true, Bool.false_eq_true, false_and, if_false] at *
      have h01 : 0 < i := by omega
      generalize f v (b ++ nextT) = b2 at *
      simp only [bOne, bTwo, ByteArray.size_append] at hlg hw hv ⊢
      refine ⟨.normal, _, by simp -implicitDefEqProofs [-intBin, q_lss, q_gtr, q_add, q_eql, x245L1, hlt, hget, hlg, g0, hk5, hw, hv, e1, e2, h01, h00']; rfl, .inl ⟨rfl, n - 1, by omega, i + 1, b2, by omega, hp, hs, rfl, by simp -implicitDefEqProofs⟩⟩
    ·have h00' : ¬ (0 : Int) < i := by omega
     have hi0 : i = 0 := by omega
     subst hi0
     have hv := hI.call v hmem b (by omega) (by omega)
     have hp := hI.pos v hmem b (by omega)
     have hs := hI.size v hmem b (by omega)
     have hno : ¬ (decide (o.k = 5) = true ∧ 0 % 2 = 1) := by simp
     rw [if_neg hno, if_neg h00]
     simp only [Nat.zero_mul, Nat.add_zero] at hget
     have hm0 : intBin .rem .i64 0 2 = some (.int .i64 0) := rfl
     have e10 : IntKind.wrap .i64 1 = 1 := rfl
     generalize f v b = b2 at *
     simp only [bOne, bTwo] at hlg hv ⊢
     by_cases hk5 : o.k = 5
     ·rw [hk5] at g0
      refine ⟨.normal, _, by simp -implicitDefEqProofs [-intBin, q_lss, q_gtr, q_add, q_eql, x245L1, hlt, hget, hlg, g0, hm0, hv, e10, e2]; rfl, .inl ⟨rfl, n - 1, by omega, 1, b2, by omega, hp, hs, rfl, by simp -implicitDefEqProofs⟩⟩
     ·refine ⟨.normal, _, by simp -implicitDefEqProofs [-intBin, q_lss, q_gtr, q_add, q_eql, x245L1, hlt, hget, hlg, g0, hk5, hv, e10, e2]; rfl, .inl ⟨rfl, n - 1, by omega, 1, b2, by omega, hp, hs, rfl, by simp -implicitDefEqProofs⟩⟩
 ·have hie : i = o.l.xs.length := by omega
  subst hie
  rw [List.drop_eq_nil_of_le (Nat.le_refl _), itemsV]
  simp only [bOne]
  refine ⟨.exit 0, _, by simp -implicitDefEqProofs [x245L1], .inr ⟨by simp, .inr ⟨rfl, rfl, by simp, hb, hbB⟩⟩⟩
end
end Go.EX


set_option maxHeartbeats 4000000
set_option linter.unusedVariables false
set_option linter.unusedSimpArgs false
namespace Go.EX
section
variable {code : Nat → Option XFun} {ext : Calls'}
theorem zj6 (x : ByteArray) (a : UInt8) : (x ++ (⟨#[a]⟩ : ByteArray)).size = x.size + 1 := zqd x ⟨#[a]⟩
theorem zhv (x : ByteArray) : (x ++ lackT).size = x.size + 5 := zqd x lackT
theorem zrc (c : TextCode code ext) (h245 : code 245 = some x245) {sv : IV} {inn : Int} (hinn : 0 ≤ inn ∧ inn ≤ 100) {f : Val → ByteArray → ByteArray} {o : Obj} {B : Nat} (hB1 : 5001 ≤ B) (hB : B ≤ 100000000) (hI : ItemOK code ext sv (inn + 1) f o.l.xs B) (hl : o.l.xs.length ≤ 1000000) {row : List IV} {off : Nat} (hget : cut row off 5 = some [.val (.int .u8 o.k), .val (.string o.s), o.l.iv, .val (.int .i64 o.room), .val (.int .i64 o.fn)]) (b : ByteArray) (hb : 0 < b.size) (hb5 : b.size ≤ 5000) :
  callW code ext 245 [.optr 0 0, .imm (.ptr row off), int64 inn] (bOne sv b) = some (.tup [], bTwo sv (rowV f o b)) := by
 have g0 : row[off]? = some (.val (.int .u8 o.k)) := by simpa using zcy hget 0 (by omega)
 have g2 : row[off + 2]? = some o.l.iv := zcy hget 2 (by omega)
 have hlen := zms o.l.ok
 have hm2 := tmod2 o.l.xs.length
 rw [zbr code ext h245]
 unfold rowV
 by_cases hk5 : o.k = 5
 ·have hL := fun c0 h1 h2 => zhe c hinn hB hI hl g0 endM c0 h1 h2
  have hw := zs5 c sv b openM hb (by have : (openM).size = 1 := rfl; omega)
  have ho1 : (b ++ openM).size = (b).size + 1 := zj6 _ _
  rw [hk5] at g0
  simp only [hk5, decide_true, if_true] at hL ⊢
  unfold x245
  generalize x245L1 = L at hL ⊢
  obtain ⟨e, s', l1, _, h | h⟩ := hL (b ++ openM) (by omega) (by rw [ho1]; omega)
  ·obtain ⟨rfl, l2, l3⟩ := h
   rw [if_pos l3]
   simp only [bOne, bTwo, ByteArray.size_append] at l1 hw
   simp only [bOne, bTwo, ByteArray.size_append]
   simp -implicitDefEqProofs [-intBin, -leave, q_eql, g0, g2, hlen, hw, l1, hk5]
   exact l2
  ·obtain ⟨rfl, rfl, l3, l4, l5⟩ := h
   rw [if_neg (by rw [l3]; decide)]
   generalize (itemsV f true o.l.xs 0 (b ++ openM)).1 = c1 at *
   by_cases hodd : o.l.xs.length % 2 = 1
   ·have hw1 := zs5 c sv c1 lackT l4 (by have : lackT.size = 5 := rfl; omega)
    have hw2 := zs5 c sv (c1 ++ lackT) endM (by rw [zhv]; omega) (by rw [zhv]; have : endM.size = 1 := rfl; omega)
    simp only [hodd, and_self, if_true]
    rw [hodd] at hm2
    simp only [bOne, bTwo, ByteArray.size_append] at l1 hw hw1 hw2 ⊢
    simp -implicitDefEqProofs [-intBin, q_eql, g0, g2, hlen, hw, l1, hm2, hw1, hw2]
   ·have hw2 := zs5 c sv c1 endM l4 (by have : endM.size = 1 := rfl; omega)
    have heven : o.l.xs.length % 2 = 0 := by omega
    simp only [hodd, and_false, if_false]
    rw [heven] at hm2
    simp only [bOne, bTwo, ByteArray.size_append] at l1 hw hw2 ⊢
    simp -implicitDefEqProofs [-intBin, q_eql, g0, g2, hlen, hw, l1, hm2, hw2]
 ·have hL := fun c0 h1 h2 => zhe c hinn hB hI hl g0 endL c0 h1 h2
  have hw := zs5 c sv b openL hb (by have : (openL).size = 1 := rfl; omega)
  have ho1 : (b ++ openL).size = (b).size + 1 := zj6 _ _
  have hkd : decide (o.k = 5) = false := by simpa using hk5
  simp only [hkd, Bool.false_eq_true, if_false, false_and] at hL ⊢
  unfold x245
  generalize x245L1 = L at hL ⊢
  obtain ⟨e, s', l1, _, h | h⟩ := hL (b ++ openL) (by omega) (by rw [ho1]; omega)
  ·obtain ⟨rfl, l2, l3⟩ := h
   rw [if_pos l3]
   simp only [bOne, bTwo, ByteArray.size_append] at l1 hw
   simp only [bOne, bTwo, ByteArray.size_append]
   simp -implicitDefEqProofs [-intBin, -leave, q_eql, g0, g2, hlen, hw, l1, hk5]
   exact l2
  ·obtain ⟨rfl, rfl, l3, l4, l5⟩ := h
   rw [if_neg (by rw [l3]; decide)]
   generalize (itemsV f false o.l.xs 0 (b ++ openL)).1 = c1 at *
   have hw2 := zs5 c sv c1 endL l4 (by have : endL.size = 1 := rfl; omega)
   simp only [bOne, bTwo, ByteArray.size_append] at l1 hw hw2 ⊢
   simp -implicitDefEqProofs [-intBin, q_eql, g0, g2, hlen, hw, l1, hw2, hk5]
theorem zrb (c : TextCode code ext) (h245 : code 245 = some x245) {sv : IV} {inn : Int} (hinn : 0 ≤ inn ∧ inn ≤ 100) {f : Val → ByteArray → ByteArray} {o : Obj} {B : Nat} (hB1 : 5001 ≤ B) (hB : B ≤ 100000000) (hI : ItemOK code ext sv (inn + 1) f o.l.xs B) (hl : o.l.xs.length ≤ 1000000) {row : List IV} {off : Nat} (hget : cut row off 5 = some [.val (.int .u8 o.k), .val (.string o.s), o.l.iv, .val (.int .i64 o.room), .val (.int .i64 o.fn)])  :
  callW code ext 245 [.optr 0 0, .imm (.ptr row off), int64 inn] (bNil false sv) = some (.tup [], bOne sv (rowV f o ByteArray.empty)) := by
 have g0 : row[off]? = some (.val (.int .u8 o.k)) := by simpa using zcy hget 0 (by omega)
 have g2 : row[off + 2]? = some o.l.iv := zcy hget 2 (by omega)
 have hlen := zms o.l.ok
 have hm2 := tmod2 o.l.xs.length
 rw [zbr code ext h245]
 unfold rowV
 by_cases hk5 : o.k = 5
 ·have hL := fun c0 h1 h2 => zhb c hinn hB hI hl g0 endM c0 h1 h2
  have hw := zs3 c false sv openM (by decide) (by decide)
  have ho1 : (ByteArray.empty ++ openM).size = (ByteArray.empty).size + 1 := zj6 _ _
  rw [hk5] at g0
  simp only [hk5, decide_true, if_true] at hL ⊢
  have hE : (ByteArray.empty ++ openM) = openM := by rfl
  rw [hE]
  unfold x245
  generalize x245L1 = L at hL ⊢
  obtain ⟨e, s', l1, _, h | h⟩ := hL (openM) (by decide) (by have : (openM).size = 1 := rfl; omega)
  ·obtain ⟨rfl, l2, l3⟩ := h
   rw [if_pos l3]
   simp only [bNil, bAddr, bOne, bTwo, ByteArray.size_append] at l1 hw
   simp only [bNil, bAddr, bOne, bTwo, ByteArray.size_append]
   simp -implicitDefEqProofs [-intBin, -leave, q_eql, g0, g2, hlen, hw, l1, hk5]
   exact l2
  ·obtain ⟨rfl, rfl, l3, l4, l5⟩ := h
   rw [if_neg (by rw [l3]; decide)]
   generalize (itemsV f true o.l.xs 0 (openM)).1 = c1 at *
   by_cases hodd : o.l.xs.length % 2 = 1
   ·have hw1 := zs5 c sv c1 lackT l4 (by have : lackT.size = 5 := rfl; omega)
    have hw2 := zs5 c sv (c1 ++ lackT) endM (by rw [zhv]; omega) (by rw [zhv]; have : endM.size = 1 := rfl; omega)
    simp only [hodd, and_self, if_true]
    rw [hodd] at hm2
    simp only [bNil, bAddr, bOne, bTwo, ByteArray.size_append] at l1 hw hw1 hw2 ⊢
    simp -implicitDefEqProofs [-intBin, q_eql, g0, g2, hlen, hw, l1, hm2, hw1, hw2]
   ·have hw2 := zs5 c sv c1 endM l4 (by have : endM.size = 1 := rfl; omega)
    have heven : o.l.xs.length % 2 = 0 := by omega
    simp only [hodd, and_false, if_false]
    rw [heven] at hm2
    simp only [bNil, bAddr, bOne, bTwo, ByteArray.size_append] at l1 hw hw2 ⊢
    simp -implicitDefEqProofs [-intBin, q_eql, g0, g2, hlen, hw, l1, hm2, hw2]
 ·have hL := fun c0 h1 h2 => zhb c hinn hB hI hl g0 endL c0 h1 h2
  have hw := zs3 c false sv openL (by decide) (by decide)
  have ho1 : (ByteArray.empty ++ openL).size = (ByteArray.empty).size + 1 := zj6 _ _
  have hkd : decide (o.k = 5) = false := by simpa using hk5
  simp only [hkd, Bool.false_eq_true, if_false, false_and] at hL ⊢
  have hE : (ByteArray.empty ++ openL) = openL := by rfl
  rw [hE]
  unfold x245
  generalize x245L1 = L at hL ⊢
  obtain ⟨e, s', l1, _, h | h⟩ := hL (openL) (by decide) (by have : (openL).size = 1 := rfl; omega)
  ·obtain ⟨rfl, l2, l3⟩ := h
   rw [if_pos l3]
   simp only [bNil, bAddr, bOne, bTwo, ByteArray.size_append] at l1 hw
   simp only [bNil, bAddr, bOne, bTwo, ByteArray.size_append]
   simp -implicitDefEqProofs [-intBin, -leave, q_eql, g0, g2, hlen, hw, l1, hk5]
   exact l2
  ·obtain ⟨rfl, rfl, l3, l4, l5⟩ := h
   rw [if_neg (by rw [l3]; decide)]
   generalize (itemsV f false o.l.xs 0 (openL)).1 = c1 at *
   have hw2 := zs5 c sv c1 endL l4 (by have : endL.size = 1 := rfl; omega)
   simp only [bNil, bAddr, bOne, bTwo, ByteArray.size_append] at l1 hw hw2 ⊢
   simp -implicitDefEqProofs [-intBin, q_eql, g0, g2, hlen, hw, l1, hw2, hk5]
end
end Go.EX


set_option linter.unusedVariables false
set_option linter.unusedSimpArgs false
namespace Go.EX
theorem zdh {n : Int} (h : (tInt .i64).wf n) : (dig n).size ≤ 21 := by
 obtain ⟨h0, h1⟩ := wfI64.1 h
 have := Go.Lib.itoa_length_le n h0 h1
 show (Go.Lib.itoa n).toArray.size ≤ 21
 simpa using this
theorem zjs {S : List Obj} {v : Val} {o : Obj} (h : objOf S v = some o) : o ∈ S ∧ o.k = v.k := by
 unfold objOf at h
 rw [Option.bind_eq_some_iff] at h
 obtain ⟨k, hk, ho⟩ := h
 obtain ⟨_, _, _, _, o', ho', hk'⟩ := zh1 hk
 rw [ho'] at ho
 cases ho
 exact ⟨List.mem_of_getElem? ho', hk'⟩
theorem zld {S : List Obj} {deep : Bool} {v : Val} {x : ByteArray} (hv : tVal.wf v) (hS : ∀ o ∈ S, tObj.wf o) (hs : ∀ o ∈ S, o.s.size ≤ 1048576) (h : pieceOf S deep v = some x) : x.size ≤ 1048600 := by
 unfold pieceOf at h
 split at h
 ·cases h; decide
 split at h
 ·cases h; split <;> decide
 split at h
 ·cases h; have := zdh hv.2; omega
 split at h
 ·cases h; decide
 rename_i o ho
 obtain ⟨hm, _⟩ := zjs ho
 split at h
 ·cases h; decide
 split at h
 ·cases h; have := hs o hm; omega
 split at h
 ·cases h
  have := zdh (hS o hm).2.2.2
  rw [zqd]
  have : fnT.size = 3 := rfl
  omega
 split at h
 ·cases h; decide
 ·cases h
theorem zlc {S : List Obj} {deep : Bool} {v : Val} (h : pieceOf S deep v = none) : deep = false ∧ v.k ≠ 0 ∧ v.k ≠ 1 ∧ v.k ≠ 2 ∧ v.k ≠ 7 ∧ v.k ≠ 3 ∧ v.k ≠ 6 ∧ ∃ o, objOf S v = some o := by
 unfold pieceOf at h
 by_cases h0 : v.k = 0
 ·simp [h0] at h
 by_cases h1 : v.k = 1
 ·simp [h0, h1] at h
 by_cases h2 : v.k = 2
 ·simp [h0, h1, h2] at h
 rw [if_neg h0, if_neg h1, if_neg h2] at h
 cases ho : objOf S v with
 | none => rw [ho] at h; cases h
 | some o =>
  rw [ho] at h
  dsimp only at h
  by_cases h7 : v.k = 7
  ·rw [if_pos h7] at h; cases h
  by_cases h3 : v.k = 3
  ·rw [if_neg h7, if_pos h3] at h; cases h
  by_cases h6 : v.k = 6
  ·rw [if_neg h7, if_neg h3, if_pos h6] at h; cases h
  rw [if_neg h7, if_neg h3, if_neg h6] at h
  cases deep with
  | true => cases h
  | false => exact ⟨rfl, h0, h1, h2, h7, h3, h6, o, rfl⟩
theorem zhd {f : Val → ByteArray → ByteArray} {m : Bool} {X : Nat} (hX : 5000 ≤ X) : ∀ (xs : List Val) (i : Nat) (c : ByteArray), (∀ v ∈ xs, ∀ c : ByteArray, c.size ≤ 5000 → (f v c).size ≤ X) → c.size ≤ X → (itemsV f m xs i c).1.size ≤ X
 | [], i, c, _, h => h
 | v :: r, i, c, hf, h => by
  unfold itemsV
  split
  ·exact h
  ·rename_i h4
   refine zhd hX r (i + 1) _ (fun w hw => hf w (List.mem_cons_of_mem _ hw)) (hf v (List.mem_cons_self ..) _ ?_)
   split
   ·rw [zhp]; omega
   ·split
    ·rw [zjc]; omega
    ·omega
theorem zn9 {f : Val → ByteArray → ByteArray} {o : Obj} {X : Nat} (hX : 5001 ≤ X) (hf : ∀ v ∈ o.l.xs, ∀ c : ByteArray, c.size ≤ 5000 → (f v c).size ≤ X) (c : ByteArray) (hc : c.size ≤ 5000) : (rowV f o c).size ≤ X + 6 := by
 have hop : (c ++ if decide (o.k = 5) then openM else openL).size = c.size + 1 := by split <;> exact zj6 _ _
 have h := zhd (m := decide (o.k = 5)) (by omega) o.l.xs 0 (c ++ if decide (o.k = 5) then openM else openL) hf (by omega)
 have hen : ∀ x : ByteArray, (x ++ if decide (o.k = 5) then endM else endL).size = x.size + 1 := fun x => by split <;> exact zj6 _ _
 unfold rowV
 dsimp only
 generalize decide (o.k = 5) = m at *
 generalize itemsV f m o.l.xs 0 (c ++ if m = true then openM else openL) = q at *
 by_cases h2 : q.2 = true
 ·rw [if_pos h2]; omega
 ·rw [if_neg h2, hen]
  split
  ·rw [zhv]; omega
  ·omega
theorem zhc {f : Val → ByteArray → ByteArray} {m : Bool} : ∀ (xs : List Val) (i : Nat) (c : ByteArray), (∀ v ∈ xs, ∀ c : ByteArray, 0 < c.size → 0 < (f v c).size) → 0 < c.size → 0 < (itemsV f m xs i c).1.size
 | [], i, c, _, h => h
 | v :: r, i, c, hf, h => by
  unfold itemsV
  split
  ·exact h
  ·refine zhc r (i + 1) _ (fun w hw => hf w (List.mem_cons_of_mem _ hw)) (hf v (List.mem_cons_self ..) _ ?_)
   split
   ·rw [zhp]; omega
   ·split
    ·rw [zjc]; omega
    ·omega
theorem zn7 {f : Val → ByteArray → ByteArray} {o : Obj} (hf : ∀ v ∈ o.l.xs, ∀ c : ByteArray, 0 < c.size → 0 < (f v c).size) (c : ByteArray) : 0 < (rowV f o c).size := by
 have hop : (c ++ if decide (o.k = 5) then openM else openL).size = c.size + 1 := by split <;> exact zj6 _ _
 have h := zhc (m := decide (o.k = 5)) o.l.xs 0 (c ++ if decide (o.k = 5) then openM else openL) hf (by omega)
 have hen : ∀ x : ByteArray, (x ++ if decide (o.k = 5) then endM else endL).size = x.size + 1 := fun x => by split <;> exact zj6 _ _
 unfold rowV
 dsimp only
 generalize decide (o.k = 5) = m at *
 generalize itemsV f m o.l.xs 0 (c ++ if m = true then openM else openL) = q at *
 by_cases h2 : q.2 = true
 ·rw [if_pos h2]; exact h
 ·rw [if_neg h2, hen]; omega
structure StoreOK (S : List Obj) : Prop where
 wf : ∀ o ∈ S, tObj.wf o
 s : ∀ o ∈ S, o.s.size ≤ 1048576
 l : ∀ o ∈ S, o.l.xs.length ≤ 1000000
theorem zhf {S : List Obj} (h : StoreOK S) {o : Obj} (ho : o ∈ S) : ∀ v ∈ o.l.xs, tVal.wf v := o.l.ok.1
theorem zrh {S : List Obj} {d : Nat} {v : Val} {o : Obj} (hp : pieceOf S (d + 1 == 0) v = none) (ho : objOf S v = some o) (c : ByteArray) : tellV S (d + 1) v c = rowV (tellV S d) o c := by
 unfold tellV
 rw [hp, ho]
theorem zre {S : List Obj} (h : StoreOK S) : ∀ (d : Nat) (v : Val) (c : ByteArray), tVal.wf v → (c.size ≤ 5000 → (tellV S d v c).size ≤ 1054000 + 10 * d) ∧ (0 < c.size → 0 < (tellV S d v c).size)
 | d, v, c, hv => by
  unfold tellV
  cases hp : pieceOf S (d == 0) v with
  | some x =>
   have := zld hv h.wf h.s hp
   exact ⟨fun hc => by dsimp only; rw [zqd]; omega, fun hc => by dsimp only; rw [zqd]; omega⟩
  | none =>
   obtain ⟨hd, _, _, _, _, _, _, o, ho⟩ := zlc hp
   obtain ⟨hm, _⟩ := zjs ho
   rw [ho]
   cases d with
   | zero => cases hd
   | succ d =>
    dsimp only
    have hw := zhf h hm
    refine ⟨fun hc => ?_, fun hc => zn7 (fun w hw' c hc => (zre h d w c (hw w hw')).2 hc) c⟩
    have := zn9 (X := 1054000 + 10 * d) (by omega) (fun w hw' c hc => (zre h d w c (hw w hw')).1 hc) c hc
    omega
section
variable {code : Nat → Option XFun} {ext : Calls'}
theorem zsr (c : TextCode code ext) (h : code 651 = some x651) (h246 : code 246 = some x246) {sv : IV} {S : List Obj} (hr : Reads tObj sv S) (v : Val) (hv : tVal.wf v) (inn : Int) (hd : ¬ (8 < inn)) (hk : v.k ≠ 0 ∧ v.k ≠ 1 ∧ v.k ≠ 2 ∧ v.k ≠ 7 ∧ v.k ≠ 3 ∧ v.k ≠ 6) {o : Obj} (ho : objOf S v = some o) :
  ∃ row off, cut row off 5 = some [.val (.int .u8 o.k), .val (.string o.s), o.l.iv, .val (.int .i64 o.room), .val (.int .i64 o.fn)] ∧
   (∀ b b', callW code ext 245 [.optr 0 0, .imm (.ptr row off), int64 inn] (bOne sv b) = some (.tup [], bTwo sv b') → callW code ext 246 [.optr 0 0, .agg [.imm (.val (.int .u8 v.k)), int64 v.n], int64 inn] (bOne sv b) = some (.tup [], bTwo sv b')) ∧
   (∀ b', callW code ext 245 [.optr 0 0, .imm (.ptr row off), int64 inn] (bNil false sv) = some (.tup [], bOne sv b') → callW code ext 246 [.optr 0 0, .agg [.imm (.val (.int .u8 v.k)), int64 v.n], int64 inn] (bNil false sv) = some (.tup [], bOne sv b')) := by
 obtain ⟨k0, k1, k2, k7, k3, k6⟩ := hk
 rcases zh0 (ext := ext) h hr v hv.2 with ⟨hn, _⟩ | ⟨k, o', row, off, hle, hso, hget, hl⟩
 ·simp [objOf, hn] at ho
 ·simp only [objOf, hle, Option.bind_some, hso, Option.some.injEq] at ho
  subst ho
  refine ⟨row, off, hget, fun b b' hw => ?_, fun b' hw => ?_⟩
  ·rw [zbr code ext h246]
   simp only [bOne, bTwo] at hw ⊢
   simp -implicitDefEqProofs [x246, hl, hw, k0, k1, k2, k7, k3, k6, hd]
  ·rw [zbr code ext h246]
   simp only [bNil, bAddr, bOne] at hw ⊢
   simp -implicitDefEqProofs [x246, hl, hw, k0, k1, k2, k7, k3, k6, hd]
theorem zrg (c : TextCode code ext) (h : code 651 = some x651) (h246 : code 246 = some x246) (h245 : code 245 = some x245) {sv : IV} {S : List Obj} (hr : Reads tObj sv S) (hS : StoreOK S) : ∀ (d : Nat), d ≤ 9 → ∀ (v : Val) (b : ByteArray), tVal.wf v → 0 < b.size → b.size ≤ 5000 →
  callW code ext 246 [.optr 0 0, .agg [.imm (.val (.int .u8 v.k)), int64 v.n], int64 (9 - d)] (bOne sv b) = some (.tup [], bTwo sv (tellV S d v b))
 | d, hd9, v, b, hv, hb, hb5 => by
  have hdd : decide ((8 : Int) < 9 - d) = (d == 0) := by
   cases d with
   | zero => rfl
   | succ d => simp; omega
  have hfn := fun o ho => (hS.wf o ho).2.2.2
  cases hp : pieceOf S (d == 0) v with
  | some x =>
   have hx := zld hv hS.wf hS.s hp
   have he : tellV S d v b = b ++ x := by unfold tellV; rw [hp]
   rw [he]
   exact zsq c h h246 hr v hv (9 - d) b x (by rw [hdd]; exact hp) (nw := x.size) (zs5 c sv b x hb (by omega)) hfn (by omega)
  | none =>
   obtain ⟨hd0, k0, k1, k2, k7, k3, k6, o, ho⟩ := zlc hp
   obtain ⟨hm, _⟩ := zjs ho
   cases d with
   | zero => cases hd0
   | succ d =>
    have he : tellV S (d + 1) v b = rowV (tellV S d) o b := zrh hp ho b
    rw [he]
    obtain ⟨row, off, hget, hF, _⟩ := zsr c h h246 hr v hv (9 - (d + 1 : Nat)) (by omega) ⟨k0, k1, k2, k7, k3, k6⟩ ho
    have hl := hS.l o hm
    refine hF b _ (zrc c h245 (B := 2000000) (by omega) (by omega) (by omega) ⟨fun w hw c' hc hc5 => ?_, fun w hw c' hc => (zre hS d w c' (o.l.ok.1 w hw)).2 hc, fun w hw c' hc => by have := (zre hS d w c' (o.l.ok.1 w hw)).1 hc; omega⟩ (by omega) hget b hb hb5)
    have := zrg c h h246 h245 hr hS d (by omega) w c' (o.l.ok.1 w hw) hc hc5
    rw [show (9 - ((d + 1 : Nat) : Int) + 1) = 9 - d by omega]
    exact this
theorem zrf (c : TextCode code ext) (h : code 651 = some x651) (h246 : code 246 = some x246) (h245 : code 245 = some x245) {sv : IV} {S : List Obj} (hr : Reads tObj sv S) (hS : StoreOK S) (v : Val) (hv : tVal.wf v) :
  callW code ext 246 [.optr 0 0, .agg [.imm (.val (.int .u8 v.k)), int64 v.n], int64 0] (bNil false sv) = some (.tup [], if (tellV S 9 v .empty).size = 0 then bNil true sv else bOne sv (tellV S 9 v .empty)) := by
 have hfn := fun o ho => (hS.wf o ho).2.2.2
 cases hp : pieceOf S (9 == 0) v with
 | some x =>
  have hx := zld hv hS.wf hS.s hp
  have he : tellV S 9 v .empty = x := by unfold tellV; rw [hp]; simp
  rw [he]
  by_cases h0 : x.size = 0
  ·have := zdz h0
   subst this
   rw [if_pos h0]
   exact zsp c h h246 hr v hv 0 false .empty hp (zs4 c false sv) hfn (by decide)
  ·rw [if_neg h0]
   exact zso c h h246 hr v hv 0 false x hp (zs3 c false sv x (by omega) (by omega)) hfn (by omega)
 | none =>
  obtain ⟨hd0, k0, k1, k2, k7, k3, k6, o, ho⟩ := zlc hp
  obtain ⟨hm, _⟩ := zjs ho
  have he : tellV S 9 v .empty = rowV (tellV S 8) o .empty := zrh (d := 8) hp ho .empty
  rw [he]
  have hpos : 0 < (rowV (tellV S 8) o .empty).size := zn7 (fun w hw c hc => (zre hS 8 w c (o.l.ok.1 w hw)).2 hc) _
  rw [if_neg (by omega)]
  obtain ⟨row, off, hget, _, hF⟩ := zsr c h h246 hr v hv 0 (by omega) ⟨k0, k1, k2, k7, k3, k6⟩ ho
  have hl := hS.l o hm
  refine hF _ (zrb c h245 (B := 2000000) (by omega) (by omega) (by omega) ⟨fun w hw c' hc hc5 => ?_, fun w hw c' hc => (zre hS 8 w c' (o.l.ok.1 w hw)).2 hc, fun w hw c' hc => by have := (zre hS 8 w c' (o.l.ok.1 w hw)).1 hc; omega⟩ (by omega) hget)
  exact zrg c h h246 h245 hr hS 8 (by omega) w c' (o.l.ok.1 w hw) hc hc5
end
end Go.EX


set_option linter.unusedVariables false
set_option linter.unusedSimpArgs false
namespace Go.EX
def textOf (S : List Obj) (v : Val) : ByteArray × Bool := if 4096 < (tellV S 9 v .empty).size then (.empty, false) else (tellV S 9 v .empty, true)
theorem zsa (l : List UInt8) : u8s (l.map fun c => IV.val (.int .u8 c.toNat)) = some (l.map fun c => (c.toNat : Int)) := by
 induction l with
 | nil => rfl
 | cons c l ih => simp [u8s, ih]
theorem zbm (b : ByteArray) : pushAll (b.data.toList.map fun c => (c.toNat : Int)) = b := by
 rw [zlz]
 cases b with
 | mk d =>
  simp only [List.map_map]
  congr 1
  have : ((fun n : Int => UInt8.ofNat n.toNat) ∘ fun c : UInt8 => (c.toNat : Int)) = id := by
   funext c
   simp
  rw [this]
  simp
theorem mem_of {x : Option (AV × Mem)} {r : AV} (h : x.map Prod.fst = some r) : ∃ m, x = some (r, m) := by
 cases x with
 | none => cases h
 | some p => obtain ⟨a, m⟩ := p; cases h; exact ⟨m, rfl⟩
section
variable {code : Nat → Option XFun} {ext : Calls'}
theorem zq0 (c : TextCode code ext) (sv : IV) (b : ByteArray) (hb : 0 < b.size) : callW code ext 670 [.optr 0 0] (bOne sv b) = some (strV b, [.rich [.optr 0 0, .osl 1 0 1 b.size none, .imm sv], .dead, .dead]) := by
 rw [zbq code ext c.n670 (by decide), c.e670]
 have h1 : u8s (rowOfS b) = some (b.data.toList.map fun c => (c.toNat : Int)) := zsa _
 have h2 := zn4 b
 have h3 : ((b.data.toList.map fun c => (c.toNat : Int)).all fun n => decide (0 ≤ n) && decide (n < 256)) = true := by
  rw [List.all_eq_true]
  intro n hn
  rw [List.mem_map] at hn
  obtain ⟨c, _, rfl⟩ := hn
  have := c.toNat_lt
  simp
  omega
 simp only [extStr, bOne, if_true, List.getElem?_cons_zero, List.getElem?_cons_succ, Nat.zero_add, h1, h2, h3, hb, and_self, if_true, zbm]
 rfl
theorem zqz (c : TextCode code ext) (u : Bool) (sv : IV) : callW code ext 670 [.optr 0 0] (bNil u sv) = some (strV .empty, bNil u sv) := by
 rw [zbq code ext c.n670 (by decide), c.e670]
 cases u <;> rfl
theorem zrn (c : TextCode code ext) (h : code 651 = some x651) (h246 : code 246 = some x246) (h245 : code 245 = some x245) (h648 : code 648 = some x648) {sv : IV} {S : List Obj} (hr : Reads tObj sv S) (hS : StoreOK S) (v : Val) (hv : tVal.wf v) :
  ∃ m, callW code ext 648 [.imm sv, .agg [.imm (.val (.int .u8 v.k)), int64 v.n]] [] = some (.tup [strV (textOf S v).1, avb (textOf S v).2], m) := by
 have hT := zrf c h h246 h245 hr hS v hv
 refine mem_of ?_
 unfold textOf
 rw [zbr code ext h648]
 by_cases h0 : (tellV S 9 v .empty).size = 0
 ·rw [if_pos h0] at hT
  have he := zdz h0
  have hl := zim c true sv
  have hs := zqz c true sv
  rw [if_neg (by omega), he]
  simp only [bNil, bAddr] at hT hl hs ⊢
  simp -implicitDefEqProofs [x648, hT, hl, hs]
 ·rw [if_neg h0] at hT
  generalize tellV S 9 v .empty = t at hT h0 ⊢
  have hl := zin c sv t
  have hs := zq0 c sv t (by omega)
  by_cases h4 : 4096 < t.size
  ·rw [if_pos h4]
   simp only [h4, decide_true] at hl
   simp only [bNil, bAddr, bOne] at hT hl hs ⊢
   simp -implicitDefEqProofs [x648, hT, hl, hs]
  ·rw [if_neg h4]
   simp only [h4, decide_false] at hl
   simp only [bNil, bAddr, bOne] at hT hl hs ⊢
   simp -implicitDefEqProofs [x648, hT, hl, hs]
end
end Go.EX

