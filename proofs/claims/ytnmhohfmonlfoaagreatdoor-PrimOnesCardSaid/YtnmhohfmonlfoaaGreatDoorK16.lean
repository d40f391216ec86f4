import Derived.Test.YtnmhohfmonlfoaaGreatDoorK15
import Derived.Test.YtnmhohfmonlfoaaGreatDoorK12
import Derived.Test.YtnmhohfmonlfoaaGreatDoorK10
set_option linter.unusedVariables false
set_option linter.unusedSimpArgs false
namespace Go.EX
section
variable {code : Nat → Option XFun} {ext : Calls'}
theorem zrz (h : code 379 = some x379) (h' : code 372 = some x372) (iv : IV) (xs : List Obj) (hr : Reads tObj iv xs) (hb : ∀ o ∈ xs, o.l.xs.length ≤ 1000000) {s : St}
  (hst : s.tidy [0, 3, 4] = ⟨0, [(0, .imm iv), (3, .osl 0 0 5 0 (some (xs.length + 1))), (4, int64 0)], [.flat (tObj.part zObj [] (xs.length + 1)) false]⟩) :
  ∃ e s', den code ext (.loop [0, 3, 4] x373L1) s = some (e, s') ∧ e ≠ .normal ∧
   (e = .exit 0 ∧ s' = ⟨0, [(0, .imm iv), (3, .osl 0 0 5 xs.length (some (xs.length + 1))), (4, int64 xs.length), (12, avb false)], [.flat (tObj.part zObj (xs.map twinObj) 1) false]⟩) := by
 refine zir (fun n s => ∃ i, i + n = xs.length ∧ s.tidy [0, 3, 4] = ⟨0, [(0, .imm iv), (3, .osl 0 0 5 i (some (xs.length + 1))), (4, int64 (i : Nat))], [.flat (tObj.part zObj ((xs.map twinObj).take i) (n + 1)) false]⟩) _ ?_ xs.length _ ⟨0, by simp, by simpa using hst⟩
 clear hst
 rintro n s ⟨i, hi, hst⟩
 rw [hst]
 have hlen := zms hr
 have hbl := hr.2.1
 by_cases hlt : i < xs.length
 ·obtain ⟨row, off, cap, rfl, hc, hcut, hget⟩ := zmt hr (List.getElem?_eq_getElem hlt)
  have e1 : IntKind.wrap .i64 ((i : Int) + 1) = (i : Int) + 1 := wrapI64 (by omega) (by omega)
  obtain ⟨m, rfl⟩ : ∃ m, n = m + 1 := ⟨n - 1, by omega⟩
  have hlt' : (i : Int) < xs.length := by omega
  have hob := hb _ (List.getElem_mem hlt)
  have htk : xs.take (i + 1) = xs.take i ++ [xs[i]] := by rw [List.take_add_one, List.getElem?_eq_getElem hlt]; rfl
  have hti : ((xs.map twinObj).take i).length = i := by rw [List.length_take, List.length_map]; omega
  have hset := zkz tObj (by decide) zObj ((xs.map twinObj).take i) (m + 1) (twinObj xs[i])
  rw [hti] at hset
  have hset2 : (xs.map twinObj).take i ++ [twinObj xs[i]] = (xs.map twinObj).take (i + 1) := by rw [← List.map_take, ← List.map_take, htk, List.map_append]; rfl
  rw [hset2] at hset
  have hfit : (i + 1) * 5 ≤ (tObj.part zObj ((xs.map twinObj).take i) (m + 1 + 1)).length := by
   rw [zky, hti]; exact Nat.mul_le_mul_right _ (by omega)
  have hto := zry (ext := ext) h h' xs[i] (by omega)
  generalize xs[i] = o at hget hto hset
  simp only [tObj] at hget
  have henc : tObj.enc (twinObj o) = [.val (.int .u8 o.k), .val (.string o.s), twinIV tVal spVal o.l.xs, .val (.int .i64 o.room), .val (.int .i64 o.fn)] := rfl
  rw [henc, show tObj.sz = 5 from rfl] at hset
  refine ⟨.normal, ⟨0, [(0, .imm (.slice row off xs.length cap)), (3, .osl 0 0 5 (i + 1) (some (xs.length + 1))), (4, int64 ((i : Int) + 1))], [.flat (tObj.part zObj ((xs.map twinObj).take (i + 1)) (m + 1)) false, .flat [.val (.int .u8 o.k), .val (.string o.s), twinIV tVal spVal o.l.xs, .val (.int .i64 o.room), .val (.int .i64 o.fn)] false]⟩, ?_, .inl ⟨rfl, m, by omega, i + 1, by omega, ?_⟩⟩
  ·simp -implicitDefEqProofs [x373L1, hlt', hlt, hget, hto, exAppendX, exAppend, elems, e1, hset, hfit, show i + 1 ≤ xs.length + 1 by omega]
  ·simp -implicitDefEqProofs
 ·have : i = xs.length := by omega
  subst this
  refine ⟨.exit 0, ⟨0, [(0, .imm iv), (3, .osl 0 0 5 xs.length (some (xs.length + 1))), (4, int64 xs.length), (12, avb false)], [.flat (tObj.part zObj (xs.map twinObj) 1) false]⟩, ?_, .inr ⟨by simp, rfl, rfl⟩⟩
  have : n = 0 := by omega
  subst this
  simp -implicitDefEqProofs [x373L1, hlen]
  rw [List.take_of_length_le (by simp)]
theorem zr0 (h : code 379 = some x379) (h' : code 372 = some x372) (h2 : code 373 = some x373) (h3 : code 377 = some x377) {iv : IV} {xs : List Obj} (hr : Reads tObj iv xs) (hb : ∀ o ∈ xs, o.l.xs.length ≤ 1000000) (hl : xs.length ≤ 1048576) :
  callW code ext 377 [.imm iv] [] = some (.osl 0 0 5 xs.length (some (xs.length + 1)), [.flat (tObj.row (xs.map twinObj ++ [spObj])) false]) := by
 have hcp : copies (xs.length + 1) [IV.val (.int .u8 0), .val (.string .empty), .val (.slice none 0 0), .val (.int .i64 0), .val (.int .i64 0)] = tObj.part zObj [] (xs.length + 1) := zcr (t := tObj) (xs.length + 1) zObj
 have hlen := zms hr
 obtain ⟨e, s', h1, _, rfl, rfl⟩ := zrz (ext := ext) h h' iv xs hr hb (s := ⟨0, [(0, .imm iv), (3, .osl 0 0 5 0 (some (xs.length + 1))), (4, int64 0)], [.flat (tObj.part zObj [] (xs.length + 1)) false]⟩) (by simp -implicitDefEqProofs)
 have e1 : IntKind.wrap .i64 ((xs.length : Int) + 1) = (xs.length : Int) + 1 := wrapI64 (by omega) (by omega)
 have e2 : (0 : Int) ≤ (xs.length : Int) + 1 := by omega
 have e3 : (64 : Int) * ((xs.length : Int) + 1) ≤ 281474976710656 := by omega
 have e4 : (xs.length : Int) + 1 ≤ 9223372036854775807 := by omega
 have e6 : (xs.length : Int) ≤ (xs.length : Int) + 1 := by omega
 have e5 : ((xs.length : Int) + 1).toNat = xs.length + 1 := by omega
 have hset := zkz tObj (by decide) zObj (xs.map twinObj) 0 spObj
 have hfin : tObj.part zObj (xs.map twinObj ++ [spObj]) 0 = tObj.row (xs.map twinObj ++ [spObj]) := by unfold Ty.part; simp
 have hfit : (xs.length + 1) * 5 ≤ (tObj.part zObj (xs.map twinObj) (0 + 1)).length := by rw [zky, List.length_map]; exact Nat.le_refl _
 rw [hfin, List.length_map] at hset
 simp only [Nat.zero_add] at hset hfit
 have henc : tObj.enc spObj = [.val (.int .u8 0), .val (.string ⟨#[115, 112, 97, 114, 101]⟩), .val (.slice none 0 0), .val (.int .i64 0), .val (.int .i64 0)] := rfl
 rw [henc, show tObj.sz = 5 from rfl] at hset
 have hobjs : callW code ext 373 [.imm iv] [] = some (.osl 0 0 5 xs.length (some (xs.length + 1)), [.flat (tObj.row (xs.map twinObj ++ [spObj])) false]) := by
  rw [zbr code ext h2]
  simp -implicitDefEqProofs [x373, hlen, e1, e2, e3, e4, e5, e6, hcp, h1, exAppendX, exAppend, elems, hset, hfit, exSlice]
 rw [zbr code ext h3]
 have hown : (tObj.row (xs.map twinObj ++ [spObj])).all IV.plain = false ∨ (tObj.row (xs.map twinObj ++ [spObj])).all IV.plain = true := by cases (tObj.row (xs.map twinObj ++ [spObj])).all IV.plain <;> simp
 simp -implicitDefEqProofs [x377, hobjs]
theorem zbf (h : code 487 = some x487) (h1 : code 380 = some x380) (h2 : code 338 = some x338) (h3 : code 339 = some x339) (h4 : code 361 = some x361) {iv : IV} {S : List Obj} (hr : Reads tObj iv S) :
  ∃ m, callW code ext 487 [.imm iv] [] = some (avb (decide (50000 < sizeGo S.length S)), m) := by
 have hs := zqt (ext := ext) h1 h2 h3 h4 hr
 refine mem_of ?_
 rw [zbr code ext h]
 simp -implicitDefEqProofs [x487, hs]
theorem zpq (h : code 490 = some x490) (h1 : code 492 = some x492) {av hv tv sv : IV} {k n w w' : Int} {t : ByteArray}
  (hs : callW code ext 355 [.imm av, .imm hv] [] = some (avb true, [])) (hl : callW code ext 334 [.imm tv, .imm sv] [] = some (avb true, [])) (hw : w = if t = .empty then w' else 0) :
  ∃ m, callW code ext 490 [.agg [.imm av, .imm (.val (.int .u8 k)), int64 n, strV t, int64 w], .imm (.ptr [hv] 0), didV k n t w', .imm tv, .imm sv] [] = some (avb true, m) := by
 obtain ⟨m1, hr⟩ := zpc (ext := ext) h1 k n t w'
 rw [← hw] at hr
 refine mem_of ?_
 rw [zbr code ext h]
 unfold didV at *
 simp -implicitDefEqProofs [x490, hs, hl, hr]
end
end Go.EX


set_option linter.unusedVariables false
set_option linter.unusedSimpArgs false
namespace Go.EX
def ext4 (dg : Int → ByteArray) : Calls' := fun f a m =>
 if f = 674 then extCheck 674 674 a m
 else if f = 670 then extStr 670 670 a m
 else if f = 708 then match a with
  | [.imm (.val (.int .i64 n)), .imm (.val (.int .i64 10))] => if -9223372036854775808 ≤ n ∧ n ≤ 9223372036854775807 then some (.imm (.val (.string (dg n))), m) else none
  | _ => none
 else none
theorem ze2 {num : Names} {P : Program} (h1 : ExtOK num P (extCheck 674)) (h2 : ExtOK num P (extStr 670)) (h3 : ExtOK num P (extItoa 708)) : ExtOK num P (ext4 dig) := by
 intro f args m r m' C vals hc hm hl hr
 unfold ext4 at hc
 split at hc
 ·rename_i hf
  exact h1 f args m r m' C vals (by rw [hf]; exact hc) hm hl hr
 split at hc
 ·rename_i hf
  exact h2 f args m r m' C vals (by rw [hf]; exact hc) hm hl hr
 split at hc
 ·rename_i hf
  exact h3 f args m r m' C vals (by rw [hf]; exact hc) hm hl hr
 ·cases hc
end Go.EX


set_option linter.unusedVariables false
set_option linter.unusedSimpArgs false
namespace Go.EX
section
variable {ext : Calls'}
structure HandOK (T : List Obj) : Prop where
 wf : ∀ o ∈ T, tObj.wf o
 n : T.length ≤ 50000
 s : ∀ o ∈ T, o.s.size ≤ 50000
 l : ∀ o ∈ T, o.l.xs.length ≤ 50000
 sum : sumL T ≤ 50000
def PDid (ext : Calls') (f : Nat) (T B : List Obj) (v : Val) (k n : Int) (t : ByteArray) (w : Int) : Prop :=
 callW code11y ext f [.osl 0 0 5 T.length (some (T.length + 1)), .agg [.imm (.val (.int .u8 v.k)), int64 v.n]] [.flat (storeRow T) false] =
  some (.agg [.osl 1 0 5 B.length (some B.length), .imm (.val (.int .u8 k)), int64 n, strV t, int64 w], [.flat (storeRow T) false, .flat (tObj.row B) false])
theorem zqu {T : List Obj} (h : HandOK T) : Reads tObj (.slice (storeRow T) 0 T.length (some (T.length + 1))) T :=
 ⟨h.wf, by have := h.n; omega, .inr ⟨_, 0, _, rfl, fun c hc => by cases hc; exact Nat.le_succ _, zc5 T⟩⟩
theorem zb7 {T : List Obj} (h : HandOK T) (v : Val) (hw : tVal.wf v) : ∃ b : Bool, callW code11y ext 749 [.osl 0 0 2 1 (some 1), .clo 641 [.optr 1 0]] (handM T v.k v.n) = some (avb (!b), handM T v.k v.n) ∧
  (∃ m, callW code11y ext 152 [.imm (.ptr [.slice (storeRow T) 0 T.length (some (T.length + 1))] 0), .imm (.slice [.val (.int .u8 v.k), .val (.int .i64 v.n)] 0 1 (some 1))] [] = some (avb (decide (v.k ≠ 7) && b), m)) ∧ (b = true ↔ CheckOk T v) := by
 have hn := h.n
 obtain ⟨b, hc, hb⟩ := zb5 (code := code11y) (ext := ext) rfl rfl rfl rfl rfl rfl rfl rfl rfl rfl rfl rfl rfl T (by omega) v hw
 have hu := zse T
 obtain ⟨b', hc', hb'⟩ := zmw (code := code11y) (ext := ext) rfl rfl rfl rfl rfl rfl rfl rfl (zqu h) v hw (by have := h.sum; omega) (by omega)
 have hbb : b' = b := by
  rw [← hb'] at hb
  cases b <;> cases b' <;> simp_all
 subst hbb
 exact ⟨b', zgh (ext := ext) rfl rfl rfl hc, zfj (ext := ext) rfl hc', hb⟩
theorem zb2 {T : List Obj} {v : Val} (h : CheckOk T v) (h3 : 3 ≤ v.k) : ∃ k, leadsOf T v = some k := by
 have := h.1
 unfold valOf at this
 rw [if_neg (by omega), if_neg (by omega), if_neg (by omega)] at this
 exact Option.isSome_iff_exists.1 this
theorem zb1 {T : List Obj} {v : Val} (h : v.k = 2) : CheckOk T v := by
 have hl : leadsOf T v = none := by
  unfold leadsOf
  rw [if_pos (by omega)]
 refine ⟨by unfold valOf; rw [if_neg (by omega), if_neg (by omega), if_pos h], fun k o hk ho => ?_⟩
 have : ∀ k, ¬ Reach T [v] k := by
  intro k hk
  induction hk with
  | root hv h => rw [List.mem_singleton.1 hv, hl] at h; cases h
  | step _ _ _ _ ih => exact ih
 exact absurd hk (this k)
section
variable {T : List Obj} (h : HandOK T)
include h
theorem zhj (v : Val) (op : Int) {b : Bool} {k n : Int} {t : ByteArray}
  (hc : callW code11y ext 749 [.osl 0 0 2 1 (some 1), .clo 641 [.optr 1 0]] (handM T v.k v.n) = some (avb (!b), handM T v.k v.n))
  (hd : b = true → callW code11y ext 206 [.optr 0 0, .agg [.imm (.val (.int .u8 op)), int64 0, .osl 1 0 2 1 (some 1), nilS]] (plainM (tObj.row (T.map cloneObj)) T.length 0 v.k v.n) = some (doV k n t false, plainM (tObj.row (T.map cloneObj)) T.length 0 v.k v.n)) :
  ∃ B, Alike T B ∧ callW code11y ext 640 [.osl 0 0 5 T.length (some (T.length + 1)), .imm (.val (.int .u8 op)), int64 0, .osl 1 0 2 1 (some 1)] [.flat (storeRow T) false, .flat [.val (.int .u8 v.k), .val (.int .i64 v.n)] false] =
   some (.agg [.osl 2 0 5 B.length (some B.length), .imm (.val (.int .u8 (if b then k else 0))), int64 (if b then n else 0), strV (if b then t else kindT), int64 0], [.flat (storeRow T) false, .flat [.val (.int .u8 v.k), .val (.int .i64 v.n)] false, .flat (tObj.row B) false]) := by
 have hn := h.n
 have hT : ∀ o ∈ T, o.l.xs.length ≤ 1000000 := fun o ho => by have := h.l o ho; omega
 cases b with
 | false =>
  refine ⟨T.map cloneObj, zap (zar h.wf), ?_⟩
  have := zdp (code := code11y) (ext := ext) rfl rfl rfl rfl rfl rfl hT (by omega) op hc
  rw [List.length_map]
  exact this
 | true =>
  refine ⟨(T.map cloneObj).map cloneObj, zap (zap (zar h.wf)), ?_⟩
  have := zdq (code := code11y) (ext := ext) rfl rfl rfl rfl rfl rfl rfl rfl rfl hT (by omega) op hc (hd rfl)
  rw [List.length_map, List.length_map]
  exact this
theorem zka (v : Val) (hw : tVal.wf v) : ∃ k n t B, Alike T B ∧ PDid ext 635 T B v k n t 0 ∧ ∃ m, callW code11y ext 159 [.imm (.ptr [.slice (storeRow T) 0 T.length (some (T.length + 1))] 0), .agg [.imm (.val (.int .u8 v.k)), int64 v.n]] [] = some (didV k n t 0, m) := by
 obtain ⟨b, hc, hf, hb⟩ := zb7 (ext := ext) h v hw
 have hr := zjp (code := code11y) (ext := ext) rfl rfl rfl hf
 have hd := fun _ : b = true => zdn (code := code11y) (ext := ext) rfl rfl rfl (tObj.row (T.map cloneObj)) T.length v.k v.n
 by_cases k1 : v.k = 1
 ·rw [if_pos k1] at hd
  obtain ⟨B, hB, hp⟩ := zhj h v 15 hc hd
  refine ⟨_, _, _, B, hB, zkv (ext := ext) rfl hp, ?_⟩
  have : decide (v.k ≠ 7) = true := by simp [k1]
  rw [this, Bool.true_and] at hr
  cases b with
  | true => rw [if_pos ⟨rfl, k1⟩] at hr; exact hr
  | false => rw [if_neg (by simp)] at hr; exact hr
 ·rw [if_neg k1] at hd
  obtain ⟨B, hB, hp⟩ := zhj h v 15 hc hd
  refine ⟨_, _, _, B, hB, zkv (ext := ext) rfl hp, ?_⟩
  rw [if_neg (fun hx => k1 hx.2)] at hr
  cases b <;> exact hr
theorem zj9 (v : Val) (hw : tVal.wf v) : ∃ k n t B, Alike T B ∧ PDid ext 634 T B v k n t 0 ∧ ∃ m, callW code11y ext 158 [.imm (.ptr [.slice (storeRow T) 0 T.length (some (T.length + 1))] 0), .agg [.imm (.val (.int .u8 v.k)), int64 v.n]] [] = some (didV k n t 0, m) := by
 obtain ⟨b, hc, hf, hb⟩ := zb7 (ext := ext) h v hw
 have hr := zjb (code := code11y) (ext := ext) rfl rfl rfl (hp := .imm (.ptr [.slice (storeRow T) 0 T.length (some (T.length + 1))] 0)) ⟨_, rfl⟩ v
 have hd := fun _ : b = true => zdm (code := code11y) (ext := ext) rfl rfl (tObj.row (T.map cloneObj)) T.length v.k v.n
 by_cases k2 : v.k = 2
 ·rw [if_pos k2] at hd hr
  obtain ⟨B, hB, hp⟩ := zhj h v 16 hc hd
  have : b = true := hb.2 (zb1 k2)
  subst this
  exact ⟨_, _, _, B, hB, zku (ext := ext) rfl hp, hr⟩
 ·rw [if_neg k2] at hd hr
  obtain ⟨B, hB, hp⟩ := zhj h v 16 hc hd
  refine ⟨_, _, _, B, hB, zku (ext := ext) rfl hp, ?_⟩
  cases b <;> exact hr
theorem zj8 (v : Val) (hw : tVal.wf v) : ∃ k n t B, Alike T B ∧ PDid ext 631 T B v k n t 0 ∧ ∃ m, callW code11y ext 155 [.imm (.ptr [.slice (storeRow T) 0 T.length (some (T.length + 1))] 0), .agg [.imm (.val (.int .u8 v.k)), int64 v.n]] [] = some (didV k n t 0, m) := by
 obtain ⟨b, hc, hf, hb⟩ := zb7 (ext := ext) h v hw
 have hn := h.n
 have hA := zap (zar h.wf)
 have hr := zif (code := code11y) (ext := ext) rfl rfl rfl rfl (zqu h) hf (fun h1 h3 _ => zb2 (hb.1 (by simp at h1; exact h1.2)) h3)
 have hlT : (T.map cloneObj).length = T.length := List.length_map ..
 have hd := fun h1 : b = true => zdl (code := code11y) (ext := ext) (T := T.map cloneObj) rfl rfl rfl rfl (by rw [hlT]; omega) (v := v) (fun h3 _ => by rw [zh4 hA]; exact zb2 (hb.1 h1) h3)
 rw [hlT] at hd
 obtain ⟨k, n, t, h1, h2⟩ := zic hA v
 rw [h1] at hd
 obtain ⟨B, hB, hp⟩ := zhj h v 17 hc hd
 refine ⟨_, _, _, B, hB, zkt (ext := ext) rfl hp, ?_⟩
 cases b with
 | false =>
  rw [if_neg (by simp)] at hr
  exact hr
 | true =>
  by_cases k7 : v.k = 7
  ·rw [if_neg (by simp [k7])] at hr
   have hk : lenP (T.map cloneObj) v = doV 0 0 kindT false := by
    unfold lenP
    split
    ·rw [if_neg (by omega), if_neg (by omega), if_neg (by omega)]
    ·rfl
   rw [h1] at hk
   unfold doV at hk
   simp only [AV.agg.injEq, List.cons.injEq, AV.imm.injEq, IV.val.injEq, Value.int.injEq, Value.string.injEq, true_and, and_true] at hk
   obtain ⟨rfl, rfl, rfl⟩ := hk
   exact hr
  ·rw [if_pos (by simp [k7]), h2] at hr
   exact hr
end
end
end Go.EX


set_option linter.unusedVariables false
set_option linter.unusedSimpArgs false
namespace Go.EX
section
variable {ext : Calls'}
theorem LikeObj.symm {a b : Obj} (h : LikeObj a b) : LikeObj b a := ⟨h.1.symm, h.2.1.symm, h.2.2.1.symm, h.2.2.2.1.symm, h.2.2.2.2.symm⟩
theorem zt5 (t : ByteArray) : (0 : Int) = if t = .empty then 0 else 0 := by split <;> rfl
theorem za8 {t : ByteArray} (ht : t.size ≤ 4096) : askSum [textObj t] = wordsObj (textObj t) := by
 have := zsz t ht
 show IntKind.wrap .i64 (0 + wordsObj (textObj t)) = _
 rw [Int.zero_add]
 exact wrapI64 (by omega) (by omega)
theorem zsx {t : ByteArray} (ht : t.size ≤ 4096) : tObj.wf (textObj t) := by
 have h3 : (tInt .u8).wf (3 : Int) := wfU8.2 ⟨by decide, by decide⟩
 have h0 : (tInt .i64).wf (0 : Int) := wfI64.2 ⟨by decide, by decide⟩
 refine ⟨h3, ?_, h0, h0⟩
 show t.size ≤ _
 exact Nat.le_trans ht (by decide)
theorem handStore {T : List Obj} (h : HandOK T) : StoreOK T :=
 ⟨h.wf, fun o ho => Nat.le_trans (h.s o ho) (by decide), fun o ho => Nat.le_trans (h.l o ho) (by decide)⟩
theorem zqq {T : List Obj} (h : StoreOK T) : StoreOK (T.map cloneObj) := by
 refine ⟨fun x hx => ?_, fun x hx => ?_, fun x hx => ?_⟩ <;> obtain ⟨o, ho, rfl⟩ := List.mem_map.1 hx
 ·exact h.wf o ho
 ·exact h.s o ho
 ·rw [← (zcj o).2.2.1]; exact h.l o ho
theorem ref11y : RefCode code11y := ⟨rfl, rfl, rfl, rfl, rfl, rfl⟩
theorem zkb (c : TextCode code11y ext) {T : List Obj} (h : HandOK T) (v : Val) (hw : tVal.wf v) : ∃ k n t w w' B TH RH, Alike TH B ∧ Reads tObj (.slice RH 0 TH.length (some (T.length + 1))) TH ∧ (w = if t = .empty then w' else 0) ∧ PDid ext 637 T B v k n t w ∧
  callW code11y ext 162 [.optr 0 0, .agg [.imm (.val (.int .u8 v.k)), int64 v.n], avb false] (heapM (storeRow T) T.length (T.length + 1)) = some (didV k n t w', heapM RH TH.length (T.length + 1)) := by
 obtain ⟨b, hc, hf, hb⟩ := zb7 (ext := ext) h v hw
 have hn := h.n
 have hT : ∀ o ∈ T, o.l.xs.length ≤ 1000000 := fun o ho => by have := h.l o ho; omega
 have hA := zap (zar h.wf)
 have hlT : (T.map cloneObj).length = T.length := List.length_map ..
 have hrx := zm0 (ext := ext) ref11y (zqu h) (handStore h) v hw
 have hpx := zrn c rfl rfl rfl rfl (zmu tObj (T.map cloneObj) (cap := some (T.map cloneObj).length) hA.wf (by rw [hlT]; omega) (fun c hc => by cases hc; exact Nat.le_refl _)) (zqq (handStore h)) v hw
 have hsz := zrj T v
 rw [zri hA, zrm] at hpx
 rw [zrm] at hsz
 generalize textR T v = q at hrx hpx hsz
 obtain ⟨t, is⟩ := q
 dsimp only at hrx hpx hsz
 have hr := zoe (code := code11y) (ext := ext) rfl rfl rfl rfl rfl (T := T) (by omega) hf (fun _ => hrx) hsz
 have hd := zdo (code := code11y) (ext := ext) rfl rfl rfl rfl rfl rfl rfl (T := T.map cloneObj) (by rw [hlT]; omega) (v := v) hpx hsz
 rw [hlT] at hd
 have plain : ∀ (k n : Int) (s : ByteArray), (b = true → callW code11y ext 206 [.optr 0 0, .agg [.imm (.val (.int .u8 18)), int64 0, .osl 1 0 2 1 (some 1), nilS]] (plainM (tObj.row (T.map cloneObj)) T.length 0 v.k v.n) = some (doV k n s false, plainM (tObj.row (T.map cloneObj)) T.length 0 v.k v.n)) →
   callW code11y ext 162 [.optr 0 0, .agg [.imm (.val (.int .u8 v.k)), int64 v.n], avb false] (heapM (storeRow T) T.length (T.length + 1)) = some (didV (if b then k else 0) (if b then n else 0) (if b then s else kindT) 0, heapM (storeRow T) T.length (T.length + 1)) →
   ∃ k n t w w' B TH RH, Alike TH B ∧ Reads tObj (.slice RH 0 TH.length (some (T.length + 1))) TH ∧ (w = if t = .empty then w' else 0) ∧ PDid ext 637 T B v k n t w ∧
    callW code11y ext 162 [.optr 0 0, .agg [.imm (.val (.int .u8 v.k)), int64 v.n], avb false] (heapM (storeRow T) T.length (T.length + 1)) = some (didV k n t w', heapM RH TH.length (T.length + 1)) := by
  intro k n s h1 h2
  obtain ⟨B, hB, hp⟩ := zhj h v 18 hc h1
  exact ⟨_, _, _, 0, 0, B, T, _, hB, zqu h, zt5 _, zkw (ext := ext) rfl hp, h2⟩
 have hst : storeRow T = tObj.row (T ++ [spObj]) := rfl
 cases b with
 | false =>
  rw [if_pos (by simp)] at hr
  exact plain 0 0 .empty (fun hx => by cases hx) hr
 | true =>
  by_cases k7 : v.k = 7
  ·rw [if_pos k7] at hd
   rw [if_pos (by simp [k7])] at hr
   exact plain 0 0 kindT (fun _ => hd) hr
  ·rw [if_neg k7] at hd
   rw [if_neg (by simp [k7])] at hr
   cases is with
   | false =>
    rw [if_pos rfl] at hd hr
    exact plain 0 0 greatT (fun _ => hd) hr
   | true =>
    rw [if_neg (by simp)] at hd hr
    have hp := zdr (code := code11y) (ext := ext) rfl rfl rfl rfl rfl rfl rfl rfl rfl hT (by omega) 18 hc hd
    have hlB : ((T.map cloneObj ++ [textObj t]).map cloneObj).length = T.length + 1 := by simp
    rw [za8 hsz] at hp
    have hlH : (T ++ [textObj t]).length = T.length + 1 := by simp
    refine ⟨3, ((T.length + 1 : Nat) : Int), .empty, wordsObj (textObj t), wordsObj (textObj t), (T.map cloneObj ++ [textObj t]).map cloneObj, T ++ [textObj t], tObj.row (T ++ [textObj t]), zap (zat hA (zsx hsz)), ?_, by rw [if_pos rfl], ?_, by rw [hlH]; exact hr⟩
    ·refine zmu tObj _ (fun o ho => ?_) (by rw [hlH]; omega) (fun c hc => by cases hc; rw [hlH]; exact Nat.le_refl _)
     rcases List.mem_append.1 ho with ho | ho
     ·exact h.wf o ho
     ·rw [List.mem_singleton.1 ho]; exact zsx hsz
    ·unfold PDid
     rw [hlB]
     exact zkw (ext := ext) rfl hp
end
end Go.EX


set_option linter.unusedVariables false
set_option linter.unusedSimpArgs false
namespace Go.EX
section
variable {ext : Calls'}
theorem zgk {S : List Obj} (hw : ∀ o ∈ S, tObj.wf o) (h : sizeGo S.length S ≤ 50000) : HandOK (S.map twinObj) := by
 obtain ⟨h1, h2, h3, h4⟩ := zqb hw h
 refine ⟨fun x hx => ?_, by rw [List.length_map]; omega, fun x hx => ?_, fun x hx => ?_, ?_⟩
 ·obtain ⟨o, ho, rfl⟩ := List.mem_map.1 hx; exact hw o ho
 ·obtain ⟨o, ho, rfl⟩ := List.mem_map.1 hx; exact h3 o ho
 ·obtain ⟨o, ho, rfl⟩ := List.mem_map.1 hx; exact h4 o ho
 ·have : ∀ (l : List Obj), sumL (l.map twinObj) = sumL l := by
   intro l
   induction l with
   | nil => rfl
   | cons o l ih => rw [List.map_cons, sumL, sumL, ih]; rfl
  rw [this]; exact h1
theorem zas {sv : IV} {TH B : List Obj} (hA : Alike TH B) (hr : Reads tObj sv TH) : callW code11y ext 355 [.imm (.slice (tObj.row B) 0 B.length (some B.length)), .imm sv] [] = some (avb true, []) :=
 zpg (code := code11y) (ext := ext) rfl rfl rfl rfl (zmu tObj B hA.wf (by rw [hA.len]; exact hr.2.1) (fun c hc => by cases hc; exact Nat.le_refl _)) hr hA.len (fun i a b ha hb => (hA.like i b a hb ha).symm)
set_option maxHeartbeats 4000000 in
theorem zlt (c : TextCode code11y ext) (hl : callW code11y ext 489 [] [] = some (avb true, [])) {sv : IV} {S : List Obj} (hr : Reads tObj sv S) (v : Val) (hw : tVal.wf v) :
  ∃ m, callW code11y ext 484 [.imm sv, .agg [.imm (.val (.int .u8 v.k)), int64 v.n]] [] = some (avb true, m) := by
 obtain ⟨mb, hb⟩ := zbf (code := code11y) (ext := ext) rfl rfl rfl rfl rfl hr
 by_cases hbig : 50000 < sizeGo S.length S
 ·rw [decide_eq_true hbig] at hb
  refine mem_of ?_
  rw [zbr code11y ext rfl]
  simp -implicitDefEqProofs [x484, hb, hl]
 ·rw [decide_eq_false hbig] at hb
  have hsz : sizeGo S.length S ≤ 50000 := by omega
  have hH := zgk hr.1 hsz
  obtain ⟨_, hN, _, hL⟩ := zqb hr.1 hsz
  have hts := zr0 (code := code11y) (ext := ext) rfl rfl rfl rfl hr (fun o ho => by have := hL o ho; omega) (by omega)
  have hls := zh8 (code := code11y) (ext := ext) rfl rfl rfl rfl hr
  have hh := zgo (code := code11y) (ext := ext) rfl hts
  have hlT : (S.map twinObj).length = S.length := List.length_map ..
  obtain ⟨k1, n1, t1, B1, hA1, hp1, m1, hr1⟩ := zka (ext := ext) hH v hw
  obtain ⟨k2, n2, t2, B2, hA2, hp2, m2, hr2⟩ := zj9 (ext := ext) hH v hw
  obtain ⟨k3, n3, t3, B3, hA3, hp3, m3, hr3⟩ := zj8 (ext := ext) hH v hw
  obtain ⟨k4, n4, t4, w4, w4', B4, TH, RH, hA4, hR4, hw4, hp4, hr4⟩ := zkb (ext := ext) c hH v hw
  have hRT := zqu hH
  have hz := zt5
  obtain ⟨q1, hs1⟩ := zpq (code := code11y) (ext := ext) (k := k1) (n := n1) rfl rfl (zas hA1 hRT) hls (hz t1)
  obtain ⟨q2, hs2⟩ := zpq (code := code11y) (ext := ext) (k := k2) (n := n2) rfl rfl (zas hA2 hRT) hls (hz t2)
  obtain ⟨q3, hs3⟩ := zpq (code := code11y) (ext := ext) (k := k3) (n := n3) rfl rfl (zas hA3 hRT) hls (hz t3)
  obtain ⟨q4, hs4⟩ := zpq (code := code11y) (ext := ext) (k := k4) (n := n4) rfl rfl (zas hA4 hR4) hls hw4
  unfold PDid at hp1 hp2 hp3 hp4
  unfold heapM at hr4
  unfold storeRow at *
  rw [hlT] at *
  generalize tObj.row (S.map twinObj ++ [spObj]) = RT at *
  generalize tObj.row B1 = R1 at *
  generalize tObj.row B2 = R2 at *
  generalize tObj.row B3 = R3 at *
  generalize tObj.row B4 = R4 at *
  generalize B1.length = N1 at *
  generalize B2.length = N2 at *
  generalize B3.length = N3 at *
  generalize B4.length = N4 at *
  generalize TH.length = NH at *
  generalize S.length = N at *
  clear hA1 hA2 hA3 hA4 hR4 hRT hH hL hsz hbig hw4 hz
  unfold didV at *
  refine mem_of ?_
  rw [zbr code11y ext rfl]
  simp -implicitDefEqProofs [x484, hb, hl, hts, hh, hp1, hr1, hs1, hp2, hr2, hs2, hp3, hr3, hs3, hp4, hr4, hs4]
end
end Go.EX

