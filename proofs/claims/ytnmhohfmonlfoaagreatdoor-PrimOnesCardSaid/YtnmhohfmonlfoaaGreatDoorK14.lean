import Derived.Test.YtnmhohfmonlfoaaGreatDoorK13
set_option linter.unusedVariables false
set_option linter.unusedSimpArgs false
namespace Go.EX
theorem zjg (acc : List (Int × Int × ByteArray)) : (normMap acc).length = acc.length := by simp [normMap]
section
variable {code : Nat → Option XFun} {ext : Calls'}
theorem zhs (h : code 651 = some x651) (h' : code 650 = some x650) (T : List Obj) (hb : T.length ≤ 1048576) {lv : IV} {l : List Val} (hl : Reads tVal lv l) (hev : l.length % 2 = 0) :
  callW code ext 650 [.osl 0 0 5 T.length (some (T.length + 1)), .imm lv] [.flat (storeRow T) false] = some (avb (decide ((normsTo T l l.length).length = l.length / 2)), [.flat (storeRow T) false]) := by
 have hlen := zms hl
 have hbl := hl.2.1
 have loop : ∃ e s', den code ext (.loop [0, 1, 5, 6] x650L1) ⟨1, [(0, .osl 0 0 5 T.length (some (T.length + 1))), (1, .imm lv), (5, .omap 1), (6, int64 0)], keysMem T []⟩ = some (e, s') ∧ e ≠ .normal ∧
   (e = .exit 0 ∧ s' = ⟨1, [(0, .osl 0 0 5 T.length (some (T.length + 1))), (1, .imm lv), (5, .omap 1), (6, int64 l.length), (13, avb false)], keysMem T (normsTo T l l.length)⟩) := by
  refine zir (fun n s => ∃ (i : Nat), i + n = l.length ∧ i % 2 = 0 ∧ s.tidy [0, 1, 5, 6] = ⟨1, [(0, .osl 0 0 5 T.length (some (T.length + 1))), (1, .imm lv), (5, .omap 1), (6, int64 (i : Nat))], keysMem T (normsTo T l i)⟩) _ ?_ l.length _ ⟨0, by simp, rfl, by simp -implicitDefEqProofs [keysMem, normsTo, normMap]⟩
  rintro n s ⟨i, hi, hi2, hs⟩
  rw [hs]
  by_cases hlt : i < l.length
  ·obtain ⟨row, off, cap, rfl, hc, hcut, hget⟩ := zmt hl (List.getElem?_eq_getElem hlt)
   obtain ⟨s', g1, g2⟩ := zht (ext := ext) h T hb hl i l[i] (List.getElem?_eq_getElem hlt) (normsTo T l i)
   refine ⟨.normal, s', g1, .inl ⟨rfl, n - 2, by omega, i + 2, by omega, by omega, ?_⟩⟩
   rw [g2, zjl T l i l[i] hi2 (List.getElem?_eq_getElem hlt)]
   rfl
  ·have : i = l.length := by omega
   subst this
   refine ⟨.exit 0, ⟨1, [(0, .osl 0 0 5 T.length (some (T.length + 1))), (1, .imm lv), (5, .omap 1), (6, int64 l.length), (13, avb false)], keysMem T (normsTo T l l.length)⟩, ?_, .inr ⟨by simp, rfl, rfl⟩⟩
   simp -implicitDefEqProofs [x650L1, keysMem, hlen]
 obtain ⟨e, s', g1, _, rfl, rfl⟩ := loop
 rw [zbr code ext h']
 have hnl := zjg (normsTo T l l.length)
 have e2 : IntKind.wrap .i64 ((l.length : Int) / 2) = (l.length : Int) / 2 := wrapI64 (by omega) (by omega)
 have hn0 : normMap [] = [] := rfl
 simp only [keysMem, hn0] at g1
 simp -implicitDefEqProofs [x650, hlen, g1, hnl, e2]
 omega
end
end Go.EX

set_option linter.unusedVariables false
set_option linter.unusedSimpArgs false
namespace Go.EX
theorem zjh (T : List Obj) (v : Val) : (normOf T v).1 = v.k := by
 unfold normOf
 split
 ·split
  ·simp_all
  ·rfl
 ·rfl
theorem zji (T : List Obj) (a b : Val) (ha : valOf T a = true) (hb : valOf T b = true) : normOf T a = normOf T b ↔ sameOf T a b = true := by
 unfold normOf sameOf
 by_cases hk : a.k = b.k
 ·rw [if_neg (show ¬ (a.k ≠ b.k) from fun c => c hk)]
  by_cases h0 : a.k = 0
  ·have hb0 : b.k = 0 := by omega
   unfold valOf at ha hb
   rw [if_pos h0] at ha
   rw [if_pos hb0] at hb
   simp at ha hb
   simp [h0, hb0, ha, hb]
  ·rw [if_neg h0]
   by_cases h3 : a.k = 3
   ·have hb3 : b.k = 3 := by omega
    rw [if_pos h3, if_pos hb3, if_pos h3]
    have ga : (leadsOf T a).isSome = true := by
     unfold valOf at ha
     rw [if_neg (by omega), if_neg (by omega), if_neg (by omega)] at ha; exact ha
    have gb : (leadsOf T b).isSome = true := by
     unfold valOf at hb
     rw [if_neg (by omega), if_neg (by omega), if_neg (by omega)] at hb; exact hb
    obtain ⟨i, hi⟩ := Option.isSome_iff_exists.1 ga
    obtain ⟨j, hj⟩ := Option.isSome_iff_exists.1 gb
    rw [hi, hj]
    by_cases hn : a.n = b.n
    ·rw [if_pos hn]
     have hij : i = j := by
      have h1 := (zh1 hi).2.1
      have h2 := (zh1 hj).2.1
      omega
     subst hij; simp
    ·rw [if_neg hn]; simp
   ·have hb3 : ¬ b.k = 3 := by omega
    rw [if_neg h3, if_neg hb3, if_neg h3]
    by_cases hn : a.n = b.n
    ·simp [hn, hk]
    ·simp [hn]
 ·rw [if_pos hk]
  refine ⟨fun h => ?_, fun h => by cases h⟩
  have h1 := zjh T a
  have h2 := zjh T b
  unfold normOf at h1 h2
  rw [h, h2] at h1
  exact absurd h1.symm hk
theorem zjn (T : List Obj) (l : List Val) : ∀ (j : Nat), 2 * j ≤ l.length → ∀ x, x ∈ normsTo T l (2 * j) ↔ ∃ p v, p < j ∧ l[2 * p]? = some v ∧ normOf T v = x
 | 0, _, x => by
  refine ⟨fun h => by simp [normsTo] at h, ?_⟩
  rintro ⟨p, v, h, _⟩; omega
 | j + 1, hj, x => by
  have hlt : 2 * j < l.length := by omega
  have ih := zjn T l j (by omega) x
  have hg := List.getElem?_eq_getElem hlt
  have e := zjl T l (2 * j) l[2 * j] (by omega) hg
  have e' : 2 * (j + 1) = 2 * j + 2 := by omega
  rw [e', e]
  have hadd : x ∈ addNorm (normsTo T l (2 * j)) (normOf T l[2 * j]) ↔ x ∈ normsTo T l (2 * j) ∨ normOf T l[2 * j] = x := by
   unfold addNorm
   split
   ·rename_i hm
    refine ⟨.inl, ?_⟩
    rintro (h | h)
    ·exact h
    ·rw [← h]; exact hm
   ·simp [eq_comm]
  rw [hadd, ih]
  constructor
  ·rintro (⟨p, v, h1, h2, h3⟩ | h)
   ·exact ⟨p, v, by omega, h2, h3⟩
   ·exact ⟨j, _, by omega, hg, h⟩
  ·rintro ⟨p, v, h1, h2, h3⟩
   by_cases hp : p = j
   ·subst hp; rw [hg] at h2; cases h2; exact .inr h3
   ·exact .inl ⟨p, v, by omega, h2, h3⟩
theorem zjm (T : List Obj) (l : List Val) : ∀ (j : Nat), 2 * j ≤ l.length → (normsTo T l (2 * j)).length ≤ j ∧
  ((normsTo T l (2 * j)).length = j ↔ ∀ (p q : Nat) (a b : Val), q < p → p < j → l[2 * p]? = some a → l[2 * q]? = some b → normOf T a ≠ normOf T b)
 | 0, _ => by
  refine ⟨by simp [normsTo], fun _ p q a b h1 h2 => by omega, fun _ => by simp [normsTo]⟩
 | j + 1, hj => by
  have hlt : 2 * j < l.length := by omega
  obtain ⟨ih1, ih2⟩ := zjm T l j (by omega)
  have hm := zjn T l j (by omega) (normOf T l[2 * j])
  have hg := List.getElem?_eq_getElem hlt
  have e := zjl T l (2 * j) l[2 * j] (by omega) hg
  have e' : 2 * (j + 1) = 2 * j + 2 := by omega
  rw [e', e]
  unfold addNorm
  split
  ·rename_i hx
   refine ⟨by omega, fun h => by omega, fun h => ?_⟩
   obtain ⟨p, v, h1, h2, h3⟩ := hm.1 hx
   exact absurd h3.symm (h j p _ v h1 (by omega) hg h2)
  ·rename_i hx
   refine ⟨by simp; omega, ?_⟩
   rw [List.length_append, List.length_singleton]
   constructor
   ·intro h p q a b h1 h2 h3 h4
    by_cases hp : p = j
    ·subst hp
     rw [hg] at h3; cases h3
     intro hc
     exact hx (hm.2 ⟨q, b, h1, h4, hc.symm⟩)
    ·exact ih2.1 (by omega) p q a b h1 (by omega) h3 h4
   ·intro h
    have := ih2.2 fun p q a b h1 h2 h3 h4 => h p q a b h1 (by omega) h3 h4
    omega
theorem zhr (T : List Obj) (l : List Val) (hev : l.length % 2 = 0) (hv : ∀ v ∈ l, valOf T v = true) : (normsTo T l l.length).length = l.length / 2 ↔ KeysOk T l := by
 have hl : l.length = 2 * (l.length / 2) := by omega
 have h := (zjm T l (l.length / 2) (by omega)).2
 rw [← hl] at h
 rw [h]
 unfold KeysOk
 constructor
 ·intro h i k a b hi hk hlt h1 h2
  have ha := hv a (List.mem_of_getElem? h1)
  have hb := hv b (List.mem_of_getElem? h2)
  have hil := (List.getElem?_eq_some_iff.1 h1).1
  have := h (i / 2) (k / 2) a b (by omega) (by omega) (by rw [show 2 * (i / 2) = i by omega]; exact h1) (by rw [show 2 * (k / 2) = k by omega]; exact h2)
  rw [Ne, zji T a b ha hb] at this
  simpa using this
 ·intro h p q a b h1 h2 h3 h4
  have ha := hv a (List.mem_of_getElem? h3)
  have hb := hv b (List.mem_of_getElem? h4)
  rw [Ne, zji T a b ha hb, h (2 * p) (2 * q) a b (by omega) (by omega) (by omega) h3 h4]
  simp
end Go.EX


set_option linter.unusedVariables false
set_option linter.unusedSimpArgs false
namespace Go.EX
section
variable {code : Nat → Option XFun} {ext : Calls'}
abbrev oneObj (v : Val) : AObj := .flat [.val (.int .u8 v.k), .val (.int .i64 v.n)] false
abbrev oneEnv (i : Int) : Env := [(1, .optr 1 0), (2, .optr 2 0), (3, .optr 3 0), (8, .osl 0 0 2 1 (some 1)), (9, int64 1), (10, int64 i)]
def oneMem (T : List Obj) (v : Val) : Option Nat → Mem
 | none => [oneObj v, .rich [.osl 4 0 5 T.length (some (T.length + 1))], .rich [.omap 5], .rich [nilS], .flat (storeRow T) false, .map []]
 | some q => [oneObj v, .rich [.osl 4 0 5 T.length (some (T.length + 1))], .rich [.omap 5], .rich [.osl 6 0 1 1 none], .flat (storeRow T) false, .map (seenL 4 [q]), .rich (ptrs 4 [q])]
theorem zj7 (h : code 651 = some x651) (T : List Obj) (hb : T.length ≤ 1048576) (v : Val) (hw : tVal.wf v) :
  ∃ s', den code ext x655L1 ⟨6, oneEnv 0, oneMem T v none⟩ = some (.normal, s') ∧ s'.tidy [1, 2, 3, 8, 9, 10] = ⟨6, oneEnv 1, oneMem T v (leadsOf T v)⟩ := by
 have hld := zh2 (ext := ext) h T hb v hw.2
 have e1 : IntKind.wrap .i64 1 = 1 := rfl
 cases hq : leadsOf T v with
 | none =>
  rw [hq, leadAV] at hld
  simp only [oneMem]
  simp -implicitDefEqProofs [x655L1, hld, e1]
 | some q =>
  rw [hq, leadAV] at hld
  simp only [oneMem]
  have hf : ∀ m, findK m 3 (.optr 4 (q * 5)) [] 0 = some none := fun _ => rfl
  simp -implicitDefEqProofs [x655L1, hld, e1, hf, exAppendX, exAppend, exAppendR, elems, elemsR, seenL, ptrs]
theorem zj3 (h : code 651 = some x651) (h' : code 655 = some x655) (T : List Obj) (hb : T.length ≤ 1048576) (v : Val) (hw : tVal.wf v) :
  callW code ext 655 [.osl 0 0 2 1 (some 1), .optr 1 0, .optr 2 0, .optr 3 0] (oneMem T v none) = some (.tup [], oneMem T v (leadsOf T v)) := by
 obtain ⟨s', g1, g2⟩ := zj7 (ext := ext) h T hb v hw
 have hl : ∀ s, s.tidy [1, 2, 3, 8, 9, 10] = ⟨6, oneEnv 0, oneMem T v none⟩ → den code ext (.loop [1, 2, 3, 8, 9, 10] x655L1) s = some (.exit 0, ⟨6, oneEnv 1 ++ [(11, avb false)], oneMem T v (leadsOf T v)⟩) := by
  intro s hs
  rw [zda, hs, g1]
  simp only [andThen]
  rw [zda, g2]
  cases leadsOf T v with
  | none => simp -implicitDefEqProofs [x655L1, oneMem]
  | some q => simp -implicitDefEqProofs [x655L1, oneMem, ptrs, seenL]
 rw [zbr code ext h']
 have hl' := hl ⟨6, oneEnv 0, oneMem T v none⟩ (by simp -implicitDefEqProofs [oneMem])
 cases hq : leadsOf T v with
 | none =>
  rw [hq] at hl'
  simp only [oneMem] at hl' ⊢
  simp -implicitDefEqProofs [x655, hl']
 | some q =>
  rw [hq] at hl'
  simp only [oneMem, ptrs, seenL] at hl' ⊢
  simp -implicitDefEqProofs [x655, hl', ptrs, seenL]
end
end Go.EX

set_option linter.unusedVariables false
set_option linter.unusedSimpArgs false
namespace Go.EX
section
variable {code : Nat → Option XFun} {ext : Calls'}
abbrev reachEnv1 (i : Int) : Env := [(4, .optr 2 0), (6, .clo 655 [.optr 3 0, .optr 4 0, .optr 2 0]), (7, int64 i)]
def reachMem1 (T : List Obj) (v : Val) (out : List Nat) : Mem := [.flat (storeRow T) false, oneObj v, .rich [.osl 5 0 1 out.length none], .rich [.osl 0 0 5 T.length (some (T.length + 1))], .rich [.omap 6], .rich (ptrs 0 out), .map (seenL 0 out)]
theorem zmo (h : code 651 = some x651) (h' : code 655 = some x655) (T : List Obj) (hb : T.length ≤ 1048576) (v : Val) (out : List Nat) (hnd : out.Nodup) (hlt : ∀ q ∈ out, q < T.length) (i k : Nat) (hk : out[i]? = some k) (o : Obj) (ho : T[k]? = some o) :
  ∃ s', den code ext x654L1 ⟨2, reachEnv1 i, reachMem1 T v out⟩ = some (.normal, s') ∧ s'.tidy [4, 6, 7] = ⟨2, reachEnv1 ((i : Int) + 1), reachMem1 T v (addAll T out o.l.xs)⟩ := by
 have hi := (List.getElem?_eq_some_iff.1 hk).1
 have hlen := zp8 T.length out hnd hlt
 have e1 : IntKind.wrap .i64 ((i : Int) + 1) = (i : Int) + 1 := wrapI64 (by omega) (by omega)
 have hp : (ptrs 0 out)[i]? = some (.optr 0 (k * 5)) := by simp [ptrs, hk]
 have hL := zqs ho
 obtain ⟨o', tail', g1, g2, g3, g4⟩ := zah (ext := ext) h h' T hb o.l.iv o.l.xs o.l.ok 6 out (.osl 5 0 1 out.length none) [.rich (ptrs 3 out)] (.inr ⟨rfl, .inl ⟨rfl, rfl⟩⟩) rfl hnd hlt
 simp only [addBase, List.cons_append, List.nil_append] at g4
 by_cases he : addAll T out o.l.xs = out
 ·obtain ⟨rfl, rfl⟩ := g2 he
  rw [he] at g4 ⊢
  refine ⟨⟨2, reachEnv1 ((i : Int) + 1), reachMem1 T v out⟩, ?_, ?_⟩
  ·simp -implicitDefEqProofs [x654L1, reachMem1, hi, hp, hL, g4, e1]
  ·simp -implicitDefEqProofs [reachMem1]
 ·have ho' := g3 he
  subst ho'
  generalize addAll T out o.l.xs = out' at *
  obtain rfl : tail' = [.dead, .rich (ptrs 3 out')] := by
   rcases g1 with ⟨h5, _⟩ | ⟨_, ⟨h6, _⟩ | ⟨_, h7⟩⟩
   ·cases h5
   ·cases h6
   ·exact h7
  refine ⟨⟨2, reachEnv1 ((i : Int) + 1), [.flat (storeRow T) false, oneObj v, .rich [.osl 7 0 1 out'.length none], .rich [.osl 0 0 5 T.length (some (T.length + 1))], .rich [.omap 6], .dead, .map (seenL 0 out'), .rich (ptrs 0 out')]⟩, ?_, ?_⟩
  ·simp -implicitDefEqProofs [x654L1, reachMem1, hi, hp, hL, g4, e1]
  ·simp -implicitDefEqProofs [reachMem1]
def reachOut1 (T : List Obj) (v : Val) (out : List Nat) : AV × Mem := if out = [] then (nilS, [.flat (storeRow T) false, oneObj v]) else (.osl 2 0 1 out.length none, [.flat (storeRow T) false, oneObj v, .rich (ptrs 0 out)])
theorem zmi (h : code 651 = some x651) (h' : code 655 = some x655) (h2 : code 654 = some x654) (T : List Obj) (hb : T.length ≤ 1048576) (v : Val) (hw : tVal.wf v) :
  ∃ out, Grown T [v] out out.length ∧ callW code ext 654 [.osl 0 0 5 T.length (some (T.length + 1)), .osl 1 0 2 1 (some 1)] [.flat (storeRow T) false, oneObj v] = some (reachOut1 T v out) := by
 have g4 := zj3 (ext := ext) h h' T hb v hw
 have hG := Grown.start T [v]
 rw [zbr code ext h2]
 cases hq : leadsOf T v with
 | none =>
  have he : addAll T [] [v] = [] := by simp [addAll, hq]
  rw [hq] at g4
  rw [he] at hG
  simp only [oneMem] at g4
  refine ⟨[], hG, ?_⟩
  have hl : den code ext (.loop [4, 6, 7] x654L1) ⟨2, [(4, .optr 3 0), (6, .clo 655 [.optr 2 0, .optr 5 0, .optr 3 0]), (7, int64 0)], [.flat (storeRow T) false, oneObj v, .rich [.osl 0 0 5 T.length (some (T.length + 1))], .rich [nilS], .map [], .rich [.omap 4]]⟩ =
     some (.exit 0, ⟨2, [(4, .optr 2 0), (6, .clo 655 [.optr 3 0, .optr 4 0, .optr 2 0]), (7, int64 0), (16, avb false)], [.flat (storeRow T) false, oneObj v, .rich [nilS], .rich [.osl 0 0 5 T.length (some (T.length + 1))], .rich [.omap 5], .map []]⟩) := by
   rw [zda]
   simp -implicitDefEqProofs [x654L1]
  simp -implicitDefEqProofs [x654, g4, hl, reachOut1]
 | some q =>
  have he : addAll T [] [v] = [q] := by simp [addAll, hq]
  rw [hq] at g4
  rw [he] at hG
  simp only [oneMem] at g4
  have loop : ∀ s : St, s.tidy [4, 6, 7] = ⟨2, reachEnv1 0, reachMem1 T v [q]⟩ → ∃ e s', den code ext (.loop [4, 6, 7] x654L1) s = some (e, s') ∧ e ≠ .normal ∧
    (e = .exit 0 ∧ ∃ out, out ≠ [] ∧ Grown T [v] out out.length ∧ s' = ⟨2, reachEnv1 out.length ++ [(16, avb false)], reachMem1 T v out⟩) := by
   intro s hst
   refine zir (fun n s => ∃ (i : Nat) (out : List Nat), i ≤ out.length ∧ out ≠ [] ∧ n + i = T.length ∧ Grown T [v] out i ∧ s.tidy [4, 6, 7] = ⟨2, reachEnv1 i, reachMem1 T v out⟩) _ ?_ T.length s ⟨0, [q], by omega, by simp, by omega, hG, hst⟩
   clear hst hG he g4
   rintro n s ⟨i, out, hio, hne, hn, hG, hst⟩
   rw [hst]
   have hlt : ∀ q ∈ out, q < T.length := fun q hq => (hG.reach q hq).lt
   by_cases hi : i < out.length
   ·have hk := List.getElem?_eq_getElem hi
    have hko := hlt _ (List.getElem_mem hi)
    obtain ⟨s', q1, q2⟩ := zmo (code := code) (ext := ext) h h' T hb v out hG.nodup hlt i _ hk _ (List.getElem?_eq_getElem hko)
    have hG' := hG.next hk (List.getElem?_eq_getElem hko)
    have hs := hG.short
    obtain ⟨r, hr⟩ := zad T T[out[i]].l.xs out
    refine ⟨.normal, s', q1, .inl ⟨rfl, n - 1, by omega, i + 1, _, ?_, ?_, by omega, hG', by rw [q2]; rfl⟩⟩
    ·rw [hr, List.length_append]; omega
    ·rw [hr]; intro e; exact hne (List.append_eq_nil_iff.1 e).1
   ·have : i = out.length := by omega
    subst this
    refine ⟨.exit 0, ⟨2, reachEnv1 out.length ++ [(16, avb false)], reachMem1 T v out⟩, ?_, .inr ⟨by simp, rfl, out, hne, hG, rfl⟩⟩
    simp -implicitDefEqProofs [x654L1, reachMem1]
  obtain ⟨e, s', l1, _, rfl, out, hne, hG', rfl⟩ := loop ⟨2, [(4, .optr 3 0), (6, .clo 655 [.optr 2 0, .optr 5 0, .optr 3 0]), (7, int64 0)], [.flat (storeRow T) false, oneObj v, .rich [.osl 0 0 5 T.length (some (T.length + 1))], .rich [.osl 6 0 1 1 none], .map (seenL 0 [q]), .rich [.omap 4], .rich (ptrs 0 [q])]⟩ (by simp -implicitDefEqProofs [reachMem1, ptrs, seenL])
  refine ⟨out, hG', ?_⟩
  simp -implicitDefEqProofs [x654, g4, l1, reachMem1, reachOut1, hne]
end
end Go.EX


set_option maxHeartbeats 1000000
set_option linter.unusedVariables false
set_option linter.unusedSimpArgs false
namespace Go.EX
section
variable {code : Nat → Option XFun} {ext : Calls'}
theorem may3_0 (h : code 651 = some x651) (h' : code 656 = some x656) (h2 : code 653 = some x653) (h3 : code 759 = some x759) (h4 : code 749 = some x749) (h5 : code 650 = some x650) (h6 : code 652 = some x652) (T : List Obj) (hb : T.length ≤ 1048576) (k : Nat) (o : Obj) (ho : T[k]? = some o) (k3 : o.k = 3) (cS : ¬ o.s = .empty) : ∃ b : Bool, callW code ext 652 [.osl 0 0 5 T.length (some (T.length + 1)), .optr 0 (k * 5)] [.flat (storeRow T) false] = some (avb b, [.flat (storeRow T) false]) ∧ (b = true ↔ ObjOk T o) := by
 rw [zbr code ext h6]
 have hlen := zms o.l.ok
 have hok : ObjOk T o ↔ (o.s.size ≤ 4096 ∧ o.l.xs = [] ∧ o.room = 0 ∧ o.fn = 0) := by
  unfold ObjOk
  rw [if_pos k3]
 rw [hok]
 clear hok
 have g0 : (storeRow T)[k * 5]? = some (.val (.int .u8 o.k)) := zcy (zqr ho) 0 (by omega)
 have g1 : (storeRow T)[k * 5 + 1]? = some (.val (.string o.s)) := zcy (zqr ho) 1 (by omega)
 have g2 : (storeRow T)[k * 5 + 2]? = some (o.l.iv) := zcy (zqr ho) 2 (by omega)
 have g3 : (storeRow T)[k * 5 + 3]? = some (.val (.int .i64 o.room)) := zcy (zqr ho) 3 (by omega)
 have g4 : (storeRow T)[k * 5 + 4]? = some (.val (.int .i64 o.fn)) := zcy (zqr ho) 4 (by omega)
 have hba := zav (ext := ext) h h' h2 h3 h4 T hb k o ho o.l.ok
 rw [zax] at hba
 rw [show decide (o.k = 6) = false by simp; omega] at hba
 simp only [mayMem] at hba
 have cSt : (o.s = .empty) = False := eq_false cS
 by_cases hh : heldOf T o.l.xs false = true
 case neg =>
  have hhf : heldOf T o.l.xs false = false := by simpa using hh
  rw [hhf] at hba
  refine ⟨false, by simp -implicitDefEqProofs [x652, k3, g0, g1, g2, g3, g4, hlen, hba, cSt], ?_⟩
  refine ⟨fun c => (by cases c), ?_⟩
  rintro ⟨_, c, _⟩
  rw [c] at hhf
  cases hhf
 rw [hh] at hba
 by_cases cBn : o.s.size ≤ 4096
 case neg =>
  have cBt : ((o.s.size : Int) ≤ 4096) = False := eq_false (by omega)
  exact ⟨false, by simp -implicitDefEqProofs [x652, k3, g0, g1, g2, g3, g4, hlen, hba, cSt, cBt], by simp [cS, cBn]⟩
 have cBt : ((o.s.size : Int) ≤ 4096) = True := eq_true (by omega)
 by_cases cNn : o.l.xs = []
 case neg =>
  have cN0t : (o.l.xs = []) = False := eq_false cNn
  exact ⟨false, by simp -implicitDefEqProofs [x652, k3, g0, g1, g2, g3, g4, hlen, hba, cSt, cBt, cN0t], by simp [cS, cBn, cNn]⟩
 have cN0t : (o.l.xs = []) = True := eq_true cNn
 by_cases cZ : o.room = 0
 case neg =>
  have cZt : (o.room = 0) = False := eq_false cZ
  exact ⟨false, by simp -implicitDefEqProofs [x652, k3, g0, g1, g2, g3, g4, hlen, hba, cSt, cBt, cN0t, cZt], by simp [cS, cBn, cNn, cZ]⟩
 have cZt : (o.room = 0) = True := eq_true cZ
 by_cases cF : o.fn = 0
 case neg =>
  have cFt : (o.fn = 0) = False := eq_false cF
  exact ⟨false, by simp -implicitDefEqProofs [x652, k3, g0, g1, g2, g3, g4, hlen, hba, cSt, cBt, cN0t, cZt, cFt], by simp [cS, cBn, cNn, cZ, cF]⟩
 have cFt : (o.fn = 0) = True := eq_true cF
 exact ⟨true, by simp -implicitDefEqProofs [x652, k3, g0, g1, g2, g3, g4, hlen, hba, cSt, cBt, cN0t, cZt, cFt], by simp [cS, cBn, cNn, cZ, cF, hh]⟩
theorem may3_1 (h : code 651 = some x651) (h' : code 656 = some x656) (h2 : code 653 = some x653) (h3 : code 759 = some x759) (h4 : code 749 = some x749) (h5 : code 650 = some x650) (h6 : code 652 = some x652) (T : List Obj) (hb : T.length ≤ 1048576) (k : Nat) (o : Obj) (ho : T[k]? = some o) (k3 : o.k = 3) (cS : o.s = .empty) (cF : ¬ o.fn = 0) : ∃ b : Bool, callW code ext 652 [.osl 0 0 5 T.length (some (T.length + 1)), .optr 0 (k * 5)] [.flat (storeRow T) false] = some (avb b, [.flat (storeRow T) false]) ∧ (b = true ↔ ObjOk T o) := by
 rw [zbr code ext h6]
 have hlen := zms o.l.ok
 have hok : ObjOk T o ↔ (o.s.size ≤ 4096 ∧ o.l.xs = [] ∧ o.room = 0 ∧ o.fn = 0) := by
  unfold ObjOk
  rw [if_pos k3]
 rw [hok]
 clear hok
 have g0 : (storeRow T)[k * 5]? = some (.val (.int .u8 o.k)) := zcy (zqr ho) 0 (by omega)
 have g1 : (storeRow T)[k * 5 + 1]? = some (.val (.string o.s)) := zcy (zqr ho) 1 (by omega)
 have g2 : (storeRow T)[k * 5 + 2]? = some (o.l.iv) := zcy (zqr ho) 2 (by omega)
 have g3 : (storeRow T)[k * 5 + 3]? = some (.val (.int .i64 o.room)) := zcy (zqr ho) 3 (by omega)
 have g4 : (storeRow T)[k * 5 + 4]? = some (.val (.int .i64 o.fn)) := zcy (zqr ho) 4 (by omega)
 have hba := zav (ext := ext) h h' h2 h3 h4 T hb k o ho o.l.ok
 rw [zax] at hba
 rw [show decide (o.k = 6) = false by simp; omega] at hba
 simp only [mayMem] at hba
 have cSt : (o.s = .empty) = True := eq_true cS
 have cFt : (o.fn = 0) = False := eq_false cF
 by_cases hh : heldOf T o.l.xs false = true
 case neg =>
  have hhf : heldOf T o.l.xs false = false := by simpa using hh
  rw [hhf] at hba
  refine ⟨false, by simp -implicitDefEqProofs [x652, k3, g0, g1, g2, g3, g4, hlen, hba, cSt, cFt], ?_⟩
  refine ⟨fun c => (by cases c), ?_⟩
  rintro ⟨_, c, _⟩
  rw [c] at hhf
  cases hhf
 rw [hh] at hba
 have cB : o.s.size ≤ 4096 := by rw [cS]; decide
 have cBt : ((o.s.size : Int) ≤ 4096) = True := eq_true (by omega)
 by_cases cNn : o.l.xs = []
 case neg =>
  have cN0t : (o.l.xs = []) = False := eq_false cNn
  exact ⟨false, by simp -implicitDefEqProofs [x652, k3, g0, g1, g2, g3, g4, hlen, hba, cSt, cFt, cBt, cN0t], by simp [cS, cF, cB, cNn]⟩
 have cN0t : (o.l.xs = []) = True := eq_true cNn
 by_cases cZ : o.room = 0
 case neg =>
  have cZt : (o.room = 0) = False := eq_false cZ
  exact ⟨false, by simp -implicitDefEqProofs [x652, k3, g0, g1, g2, g3, g4, hlen, hba, cSt, cFt, cBt, cN0t, cZt], by simp [cS, cF, cB, cNn, cZ]⟩
 have cZt : (o.room = 0) = True := eq_true cZ
 exact ⟨false, by simp -implicitDefEqProofs [x652, k3, g0, g1, g2, g3, g4, hlen, hba, cSt, cFt, cBt, cN0t, cZt], by simp [cS, cF, cB, cNn, cZ, hh]⟩
theorem may3_2 (h : code 651 = some x651) (h' : code 656 = some x656) (h2 : code 653 = some x653) (h3 : code 759 = some x759) (h4 : code 749 = some x749) (h5 : code 650 = some x650) (h6 : code 652 = some x652) (T : List Obj) (hb : T.length ≤ 1048576) (k : Nat) (o : Obj) (ho : T[k]? = some o) (k3 : o.k = 3) (cS : o.s = .empty) (cF : o.fn = 0) (cR : ¬ (o.l.xs.length : Int) ≤ o.room) : ∃ b : Bool, callW code ext 652 [.osl 0 0 5 T.length (some (T.length + 1)), .optr 0 (k * 5)] [.flat (storeRow T) false] = some (avb b, [.flat (storeRow T) false]) ∧ (b = true ↔ ObjOk T o) := by
 rw [zbr code ext h6]
 have hlen := zms o.l.ok
 have hok : ObjOk T o ↔ (o.s.size ≤ 4096 ∧ o.l.xs = [] ∧ o.room = 0 ∧ o.fn = 0) := by
  unfold ObjOk
  rw [if_pos k3]
 rw [hok]
 clear hok
 have g0 : (storeRow T)[k * 5]? = some (.val (.int .u8 o.k)) := zcy (zqr ho) 0 (by omega)
 have g1 : (storeRow T)[k * 5 + 1]? = some (.val (.string o.s)) := zcy (zqr ho) 1 (by omega)
 have g2 : (storeRow T)[k * 5 + 2]? = some (o.l.iv) := zcy (zqr ho) 2 (by omega)
 have g3 : (storeRow T)[k * 5 + 3]? = some (.val (.int .i64 o.room)) := zcy (zqr ho) 3 (by omega)
 have g4 : (storeRow T)[k * 5 + 4]? = some (.val (.int .i64 o.fn)) := zcy (zqr ho) 4 (by omega)
 have hba := zav (ext := ext) h h' h2 h3 h4 T hb k o ho o.l.ok
 rw [zax] at hba
 rw [show decide (o.k = 6) = false by simp; omega] at hba
 simp only [mayMem] at hba
 have cSt : (o.s = .empty) = True := eq_true cS
 have cFt : (o.fn = 0) = True := eq_true cF
 have cRt : ((o.l.xs.length : Int) ≤ o.room) = False := eq_false cR
 by_cases hh : heldOf T o.l.xs false = true
 case neg =>
  have hhf : heldOf T o.l.xs false = false := by simpa using hh
  rw [hhf] at hba
  refine ⟨false, by simp -implicitDefEqProofs [x652, k3, g0, g1, g2, g3, g4, hlen, hba, cSt, cFt, cRt], ?_⟩
  refine ⟨fun c => (by cases c), ?_⟩
  rintro ⟨_, c, _⟩
  rw [c] at hhf
  cases hhf
 rw [hh] at hba
 have cB : o.s.size ≤ 4096 := by rw [cS]; decide
 have cBt : ((o.s.size : Int) ≤ 4096) = True := eq_true (by omega)
 by_cases cNn : o.l.xs = []
 case neg =>
  have cN0t : (o.l.xs = []) = False := eq_false cNn
  exact ⟨false, by simp -implicitDefEqProofs [x652, k3, g0, g1, g2, g3, g4, hlen, hba, cSt, cFt, cRt, cBt, cN0t], by simp [cS, cF, cR, cB, cNn]⟩
 have cN0t : (o.l.xs = []) = True := eq_true cNn
 by_cases cZ : o.room = 0
 case neg =>
  have cZt : (o.room = 0) = False := eq_false cZ
  exact ⟨false, by simp -implicitDefEqProofs [x652, k3, g0, g1, g2, g3, g4, hlen, hba, cSt, cFt, cRt, cBt, cN0t, cZt], by simp [cS, cF, cR, cB, cNn, cZ]⟩
 have cZt : (o.room = 0) = True := eq_true cZ
 exact ⟨true, by simp -implicitDefEqProofs [x652, k3, g0, g1, g2, g3, g4, hlen, hba, cSt, cFt, cRt, cBt, cN0t, cZt], by simp [cS, cF, cR, cB, cNn, cZ, hh]⟩
theorem may3_3 (h : code 651 = some x651) (h' : code 656 = some x656) (h2 : code 653 = some x653) (h3 : code 759 = some x759) (h4 : code 749 = some x749) (h5 : code 650 = some x650) (h6 : code 652 = some x652) (T : List Obj) (hb : T.length ≤ 1048576) (k : Nat) (o : Obj) (ho : T[k]? = some o) (k3 : o.k = 3) (cS : o.s = .empty) (cF : o.fn = 0) (cR : (o.l.xs.length : Int) ≤ o.room) (cQ : ¬ o.room ≤ 262144) : ∃ b : Bool, callW code ext 652 [.osl 0 0 5 T.length (some (T.length + 1)), .optr 0 (k * 5)] [.flat (storeRow T) false] = some (avb b, [.flat (storeRow T) false]) ∧ (b = true ↔ ObjOk T o) := by
 rw [zbr code ext h6]
 have hlen := zms o.l.ok
 have hok : ObjOk T o ↔ (o.s.size ≤ 4096 ∧ o.l.xs = [] ∧ o.room = 0 ∧ o.fn = 0) := by
  unfold ObjOk
  rw [if_pos k3]
 rw [hok]
 clear hok
 have g0 : (storeRow T)[k * 5]? = some (.val (.int .u8 o.k)) := zcy (zqr ho) 0 (by omega)
 have g1 : (storeRow T)[k * 5 + 1]? = some (.val (.string o.s)) := zcy (zqr ho) 1 (by omega)
 have g2 : (storeRow T)[k * 5 + 2]? = some (o.l.iv) := zcy (zqr ho) 2 (by omega)
 have g3 : (storeRow T)[k * 5 + 3]? = some (.val (.int .i64 o.room)) := zcy (zqr ho) 3 (by omega)
 have g4 : (storeRow T)[k * 5 + 4]? = some (.val (.int .i64 o.fn)) := zcy (zqr ho) 4 (by omega)
 have hba := zav (ext := ext) h h' h2 h3 h4 T hb k o ho o.l.ok
 rw [zax] at hba
 rw [show decide (o.k = 6) = false by simp; omega] at hba
 simp only [mayMem] at hba
 have cSt : (o.s = .empty) = True := eq_true cS
 have cFt : (o.fn = 0) = True := eq_true cF
 have cRt : ((o.l.xs.length : Int) ≤ o.room) = True := eq_true cR
 have cQt : (o.room ≤ 262144) = False := eq_false cQ
 by_cases hh : heldOf T o.l.xs false = true
 case neg =>
  have hhf : heldOf T o.l.xs false = false := by simpa using hh
  rw [hhf] at hba
  refine ⟨false, by simp -implicitDefEqProofs [x652, k3, g0, g1, g2, g3, g4, hlen, hba, cSt, cFt, cRt, cQt], ?_⟩
  refine ⟨fun c => (by cases c), ?_⟩
  rintro ⟨_, c, _⟩
  rw [c] at hhf
  cases hhf
 rw [hh] at hba
 have cB : o.s.size ≤ 4096 := by rw [cS]; decide
 have cBt : ((o.s.size : Int) ≤ 4096) = True := eq_true (by omega)
 by_cases cNn : o.l.xs = []
 case neg =>
  have cN0t : (o.l.xs = []) = False := eq_false cNn
  exact ⟨false, by simp -implicitDefEqProofs [x652, k3, g0, g1, g2, g3, g4, hlen, hba, cSt, cFt, cRt, cQt, cBt, cN0t], by simp [cS, cF, cR, cQ, cB, cNn]⟩
 have cN0t : (o.l.xs = []) = True := eq_true cNn
 by_cases cZ : o.room = 0
 case neg =>
  have cZt : (o.room = 0) = False := eq_false cZ
  exact ⟨false, by simp -implicitDefEqProofs [x652, k3, g0, g1, g2, g3, g4, hlen, hba, cSt, cFt, cRt, cQt, cBt, cN0t, cZt], by simp [cS, cF, cR, cQ, cB, cNn, cZ]⟩
 have cZt : (o.room = 0) = True := eq_true cZ
 exact ⟨true, by simp -implicitDefEqProofs [x652, k3, g0, g1, g2, g3, g4, hlen, hba, cSt, cFt, cRt, cQt, cBt, cN0t, cZt], by simp [cS, cF, cR, cQ, cB, cNn, cZ, hh]⟩
theorem may3_4 (h : code 651 = some x651) (h' : code 656 = some x656) (h2 : code 653 = some x653) (h3 : code 759 = some x759) (h4 : code 749 = some x749) (h5 : code 650 = some x650) (h6 : code 652 = some x652) (T : List Obj) (hb : T.length ≤ 1048576) (k : Nat) (o : Obj) (ho : T[k]? = some o) (k3 : o.k = 3) (cS : o.s = .empty) (cF : o.fn = 0) (cR : (o.l.xs.length : Int) ≤ o.room) (cQ : o.room ≤ 262144) : ∃ b : Bool, callW code ext 652 [.osl 0 0 5 T.length (some (T.length + 1)), .optr 0 (k * 5)] [.flat (storeRow T) false] = some (avb b, [.flat (storeRow T) false]) ∧ (b = true ↔ ObjOk T o) := by
 rw [zbr code ext h6]
 have hlen := zms o.l.ok
 have hok : ObjOk T o ↔ (o.s.size ≤ 4096 ∧ o.l.xs = [] ∧ o.room = 0 ∧ o.fn = 0) := by
  unfold ObjOk
  rw [if_pos k3]
 rw [hok]
 clear hok
 have g0 : (storeRow T)[k * 5]? = some (.val (.int .u8 o.k)) := zcy (zqr ho) 0 (by omega)
 have g1 : (storeRow T)[k * 5 + 1]? = some (.val (.string o.s)) := zcy (zqr ho) 1 (by omega)
 have g2 : (storeRow T)[k * 5 + 2]? = some (o.l.iv) := zcy (zqr ho) 2 (by omega)
 have g3 : (storeRow T)[k * 5 + 3]? = some (.val (.int .i64 o.room)) := zcy (zqr ho) 3 (by omega)
 have g4 : (storeRow T)[k * 5 + 4]? = some (.val (.int .i64 o.fn)) := zcy (zqr ho) 4 (by omega)
 have hba := zav (ext := ext) h h' h2 h3 h4 T hb k o ho o.l.ok
 rw [zax] at hba
 rw [show decide (o.k = 6) = false by simp; omega] at hba
 simp only [mayMem] at hba
 have cSt : (o.s = .empty) = True := eq_true cS
 have cFt : (o.fn = 0) = True := eq_true cF
 have cRt : ((o.l.xs.length : Int) ≤ o.room) = True := eq_true cR
 have cQt : (o.room ≤ 262144) = True := eq_true cQ
 by_cases hh : heldOf T o.l.xs false = true
 case neg =>
  have hhf : heldOf T o.l.xs false = false := by simpa using hh
  rw [hhf] at hba
  refine ⟨false, by simp -implicitDefEqProofs [x652, k3, g0, g1, g2, g3, g4, hlen, hba, cSt, cFt, cRt, cQt], ?_⟩
  refine ⟨fun c => (by cases c), ?_⟩
  rintro ⟨_, c, _⟩
  rw [c] at hhf
  cases hhf
 rw [hh] at hba
 have cB : o.s.size ≤ 4096 := by rw [cS]; decide
 have cBt : ((o.s.size : Int) ≤ 4096) = True := eq_true (by omega)
 by_cases cNn : o.l.xs = []
 case neg =>
  have cN0t : (o.l.xs = []) = False := eq_false cNn
  exact ⟨false, by simp -implicitDefEqProofs [x652, k3, g0, g1, g2, g3, g4, hlen, hba, cSt, cFt, cRt, cQt, cBt, cN0t], by simp [cS, cF, cR, cQ, cB, cNn]⟩
 have cN0t : (o.l.xs = []) = True := eq_true cNn
 by_cases cZ : o.room = 0
 case neg =>
  have cZt : (o.room = 0) = False := eq_false cZ
  exact ⟨false, by simp -implicitDefEqProofs [x652, k3, g0, g1, g2, g3, g4, hlen, hba, cSt, cFt, cRt, cQt, cBt, cN0t, cZt], by simp [cS, cF, cR, cQ, cB, cNn, cZ]⟩
 have cZt : (o.room = 0) = True := eq_true cZ
 exact ⟨true, by simp -implicitDefEqProofs [x652, k3, g0, g1, g2, g3, g4, hlen, hba, cSt, cFt, cRt, cQt, cBt, cN0t, cZt], by simp [cS, cF, cR, cQ, cB, cNn, cZ, hh]⟩
theorem may3 (h : code 651 = some x651) (h' : code 656 = some x656) (h2 : code 653 = some x653) (h3 : code 759 = some x759) (h4 : code 749 = some x749) (h5 : code 650 = some x650) (h6 : code 652 = some x652) (T : List Obj) (hb : T.length ≤ 1048576) (k : Nat) (o : Obj) (ho : T[k]? = some o) (k3 : o.k = 3) : ∃ b : Bool, callW code ext 652 [.osl 0 0 5 T.length (some (T.length + 1)), .optr 0 (k * 5)] [.flat (storeRow T) false] = some (avb b, [.flat (storeRow T) false]) ∧ (b = true ↔ ObjOk T o) := by
 by_cases cS : o.s = .empty
 case neg => exact may3_0 h h' h2 h3 h4 h5 h6 T hb k o ho k3 cS
 by_cases cF : o.fn = 0
 case neg => exact may3_1 h h' h2 h3 h4 h5 h6 T hb k o ho k3 cS cF
 by_cases cR : (o.l.xs.length : Int) ≤ o.room
 case neg => exact may3_2 h h' h2 h3 h4 h5 h6 T hb k o ho k3 cS cF cR
 by_cases cQ : o.room ≤ 262144
 case neg => exact may3_3 h h' h2 h3 h4 h5 h6 T hb k o ho k3 cS cF cR cQ
 exact may3_4 h h' h2 h3 h4 h5 h6 T hb k o ho k3 cS cF cR cQ
end
end Go.EX


set_option maxHeartbeats 1000000
set_option linter.unusedVariables false
set_option linter.unusedSimpArgs false
namespace Go.EX
section
variable {code : Nat → Option XFun} {ext : Calls'}
theorem may4_0 (h : code 651 = some x651) (h' : code 656 = some x656) (h2 : code 653 = some x653) (h3 : code 759 = some x759) (h4 : code 749 = some x749) (h5 : code 650 = some x650) (h6 : code 652 = some x652) (T : List Obj) (hb : T.length ≤ 1048576) (k : Nat) (o : Obj) (ho : T[k]? = some o) (k4 : o.k = 4) (cS : ¬ o.s = .empty) : ∃ b : Bool, callW code ext 652 [.osl 0 0 5 T.length (some (T.length + 1)), .optr 0 (k * 5)] [.flat (storeRow T) false] = some (avb b, [.flat (storeRow T) false]) ∧ (b = true ↔ ObjOk T o) := by
 rw [zbr code ext h6]
 have hlen := zms o.l.ok
 have hok : ObjOk T o ↔ (o.s = .empty ∧ o.fn = 0 ∧ (o.l.xs.length : Int) ≤ 65536 ∧ (o.l.xs.length : Int) ≤ o.room ∧ o.room ≤ 262144 ∧ heldOf T o.l.xs false = true) := by
  unfold ObjOk
  rw [if_neg (by omega), if_pos k4]
 rw [hok]
 clear hok
 have g0 : (storeRow T)[k * 5]? = some (.val (.int .u8 o.k)) := zcy (zqr ho) 0 (by omega)
 have g1 : (storeRow T)[k * 5 + 1]? = some (.val (.string o.s)) := zcy (zqr ho) 1 (by omega)
 have g2 : (storeRow T)[k * 5 + 2]? = some (o.l.iv) := zcy (zqr ho) 2 (by omega)
 have g3 : (storeRow T)[k * 5 + 3]? = some (.val (.int .i64 o.room)) := zcy (zqr ho) 3 (by omega)
 have g4 : (storeRow T)[k * 5 + 4]? = some (.val (.int .i64 o.fn)) := zcy (zqr ho) 4 (by omega)
 have hba := zav (ext := ext) h h' h2 h3 h4 T hb k o ho o.l.ok
 rw [zax] at hba
 rw [show decide (o.k = 6) = false by simp; omega] at hba
 simp only [mayMem] at hba
 have cSt : (o.s = .empty) = False := eq_false cS
 by_cases hh : heldOf T o.l.xs false = true
 case neg =>
  have hhf : heldOf T o.l.xs false = false := by simpa using hh
  rw [hhf] at hba
  exact ⟨false, by simp -implicitDefEqProofs [x652, k4, g0, g1, g2, g3, g4, hlen, hba, cSt], by simp [hhf]⟩
 rw [hh] at hba
 exact ⟨false, by simp -implicitDefEqProofs [x652, k4, g0, g1, g2, g3, g4, hlen, hba, cSt], by simp [cS, hh]⟩
theorem may4_1 (h : code 651 = some x651) (h' : code 656 = some x656) (h2 : code 653 = some x653) (h3 : code 759 = some x759) (h4 : code 749 = some x749) (h5 : code 650 = some x650) (h6 : code 652 = some x652) (T : List Obj) (hb : T.length ≤ 1048576) (k : Nat) (o : Obj) (ho : T[k]? = some o) (k4 : o.k = 4) (cS : o.s = .empty) (cF : ¬ o.fn = 0) : ∃ b : Bool, callW code ext 652 [.osl 0 0 5 T.length (some (T.length + 1)), .optr 0 (k * 5)] [.flat (storeRow T) false] = some (avb b, [.flat (storeRow T) false]) ∧ (b = true ↔ ObjOk T o) := by
 rw [zbr code ext h6]
 have hlen := zms o.l.ok
 have hok : ObjOk T o ↔ (o.s = .empty ∧ o.fn = 0 ∧ (o.l.xs.length : Int) ≤ 65536 ∧ (o.l.xs.length : Int) ≤ o.room ∧ o.room ≤ 262144 ∧ heldOf T o.l.xs false = true) := by
  unfold ObjOk
  rw [if_neg (by omega), if_pos k4]
 rw [hok]
 clear hok
 have g0 : (storeRow T)[k * 5]? = some (.val (.int .u8 o.k)) := zcy (zqr ho) 0 (by omega)
 have g1 : (storeRow T)[k * 5 + 1]? = some (.val (.string o.s)) := zcy (zqr ho) 1 (by omega)
 have g2 : (storeRow T)[k * 5 + 2]? = some (o.l.iv) := zcy (zqr ho) 2 (by omega)
 have g3 : (storeRow T)[k * 5 + 3]? = some (.val (.int .i64 o.room)) := zcy (zqr ho) 3 (by omega)
 have g4 : (storeRow T)[k * 5 + 4]? = some (.val (.int .i64 o.fn)) := zcy (zqr ho) 4 (by omega)
 have hba := zav (ext := ext) h h' h2 h3 h4 T hb k o ho o.l.ok
 rw [zax] at hba
 rw [show decide (o.k = 6) = false by simp; omega] at hba
 simp only [mayMem] at hba
 have cSt : (o.s = .empty) = True := eq_true cS
 have cFt : (o.fn = 0) = False := eq_false cF
 by_cases hh : heldOf T o.l.xs false = true
 case neg =>
  have hhf : heldOf T o.l.xs false = false := by simpa using hh
  rw [hhf] at hba
  exact ⟨false, by simp -implicitDefEqProofs [x652, k4, g0, g1, g2, g3, g4, hlen, hba, cSt, cFt], by simp [hhf]⟩
 rw [hh] at hba
 exact ⟨false, by simp -implicitDefEqProofs [x652, k4, g0, g1, g2, g3, g4, hlen, hba, cSt, cFt], by simp [cS, cF, hh]⟩
theorem may4_2 (h : code 651 = some x651) (h' : code 656 = some x656) (h2 : code 653 = some x653) (h3 : code 759 = some x759) (h4 : code 749 = some x749) (h5 : code 650 = some x650) (h6 : code 652 = some x652) (T : List Obj) (hb : T.length ≤ 1048576) (k : Nat) (o : Obj) (ho : T[k]? = some o) (k4 : o.k = 4) (cS : o.s = .empty) (cF : o.fn = 0) (cR : ¬ (o.l.xs.length : Int) ≤ o.room) : ∃ b : Bool, callW code ext 652 [.osl 0 0 5 T.length (some (T.length + 1)), .optr 0 (k * 5)] [.flat (storeRow T) false] = some (avb b, [.flat (storeRow T) false]) ∧ (b = true ↔ ObjOk T o) := by
 rw [zbr code ext h6]
 have hlen := zms o.l.ok
 have hok : ObjOk T o ↔ (o.s = .empty ∧ o.fn = 0 ∧ (o.l.xs.length : Int) ≤ 65536 ∧ (o.l.xs.length : Int) ≤ o.room ∧ o.room ≤ 262144 ∧ heldOf T o.l.xs false = true) := by
  unfold ObjOk
  rw [if_neg (by omega), if_pos k4]
 rw [hok]
 clear hok
 have g0 : (storeRow T)[k * 5]? = some (.val (.int .u8 o.k)) := zcy (zqr ho) 0 (by omega)
 have g1 : (storeRow T)[k * 5 + 1]? = some (.val (.string o.s)) := zcy (zqr ho) 1 (by omega)
 have g2 : (storeRow T)[k * 5 + 2]? = some (o.l.iv) := zcy (zqr ho) 2 (by omega)
 have g3 : (storeRow T)[k * 5 + 3]? = some (.val (.int .i64 o.room)) := zcy (zqr ho) 3 (by omega)
 have g4 : (storeRow T)[k * 5 + 4]? = some (.val (.int .i64 o.fn)) := zcy (zqr ho) 4 (by omega)
 have hba := zav (ext := ext) h h' h2 h3 h4 T hb k o ho o.l.ok
 rw [zax] at hba
 rw [show decide (o.k = 6) = false by simp; omega] at hba
 simp only [mayMem] at hba
 have cSt : (o.s = .empty) = True := eq_true cS
 have cFt : (o.fn = 0) = True := eq_true cF
 have cRt : ((o.l.xs.length : Int) ≤ o.room) = False := eq_false cR
 by_cases hh : heldOf T o.l.xs false = true
 case neg =>
  have hhf : heldOf T o.l.xs false = false := by simpa using hh
  rw [hhf] at hba
  exact ⟨false, by simp -implicitDefEqProofs [x652, k4, g0, g1, g2, g3, g4, hlen, hba, cSt, cFt, cRt], by simp [hhf]⟩
 rw [hh] at hba
 exact ⟨false, by simp -implicitDefEqProofs [x652, k4, g0, g1, g2, g3, g4, hlen, hba, cSt, cFt, cRt], by simp [cS, cF, cR, hh]⟩
theorem may4_3 (h : code 651 = some x651) (h' : code 656 = some x656) (h2 : code 653 = some x653) (h3 : code 759 = some x759) (h4 : code 749 = some x749) (h5 : code 650 = some x650) (h6 : code 652 = some x652) (T : List Obj) (hb : T.length ≤ 1048576) (k : Nat) (o : Obj) (ho : T[k]? = some o) (k4 : o.k = 4) (cS : o.s = .empty) (cF : o.fn = 0) (cR : (o.l.xs.length : Int) ≤ o.room) (cQ : ¬ o.room ≤ 262144) : ∃ b : Bool, callW code ext 652 [.osl 0 0 5 T.length (some (T.length + 1)), .optr 0 (k * 5)] [.flat (storeRow T) false] = some (avb b, [.flat (storeRow T) false]) ∧ (b = true ↔ ObjOk T o) := by
 rw [zbr code ext h6]
 have hlen := zms o.l.ok
 have hok : ObjOk T o ↔ (o.s = .empty ∧ o.fn = 0 ∧ (o.l.xs.length : Int) ≤ 65536 ∧ (o.l.xs.length : Int) ≤ o.room ∧ o.room ≤ 262144 ∧ heldOf T o.l.xs false = true) := by
  unfold ObjOk
  rw [if_neg (by omega), if_pos k4]
 rw [hok]
 clear hok
 have g0 : (storeRow T)[k * 5]? = some (.val (.int .u8 o.k)) := zcy (zqr ho) 0 (by omega)
 have g1 : (storeRow T)[k * 5 + 1]? = some (.val (.string o.s)) := zcy (zqr ho) 1 (by omega)
 have g2 : (storeRow T)[k * 5 + 2]? = some (o.l.iv) := zcy (zqr ho) 2 (by omega)
 have g3 : (storeRow T)[k * 5 + 3]? = some (.val (.int .i64 o.room)) := zcy (zqr ho) 3 (by omega)
 have g4 : (storeRow T)[k * 5 + 4]? = some (.val (.int .i64 o.fn)) := zcy (zqr ho) 4 (by omega)
 have hba := zav (ext := ext) h h' h2 h3 h4 T hb k o ho o.l.ok
 rw [zax] at hba
 rw [show decide (o.k = 6) = false by simp; omega] at hba
 simp only [mayMem] at hba
 have cSt : (o.s = .empty) = True := eq_true cS
 have cFt : (o.fn = 0) = True := eq_true cF
 have cRt : ((o.l.xs.length : Int) ≤ o.room) = True := eq_true cR
 have cQt : (o.room ≤ 262144) = False := eq_false cQ
 by_cases hh : heldOf T o.l.xs false = true
 case neg =>
  have hhf : heldOf T o.l.xs false = false := by simpa using hh
  rw [hhf] at hba
  exact ⟨false, by simp -implicitDefEqProofs [x652, k4, g0, g1, g2, g3, g4, hlen, hba, cSt, cFt, cRt, cQt], by simp [hhf]⟩
 rw [hh] at hba
 exact ⟨false, by simp -implicitDefEqProofs [x652, k4, g0, g1, g2, g3, g4, hlen, hba, cSt, cFt, cRt, cQt], by simp [cS, cF, cR, cQ, hh]⟩
theorem may4_4 (h : code 651 = some x651) (h' : code 656 = some x656) (h2 : code 653 = some x653) (h3 : code 759 = some x759) (h4 : code 749 = some x749) (h5 : code 650 = some x650) (h6 : code 652 = some x652) (T : List Obj) (hb : T.length ≤ 1048576) (k : Nat) (o : Obj) (ho : T[k]? = some o) (k4 : o.k = 4) (cS : o.s = .empty) (cF : o.fn = 0) (cR : (o.l.xs.length : Int) ≤ o.room) (cQ : o.room ≤ 262144) : ∃ b : Bool, callW code ext 652 [.osl 0 0 5 T.length (some (T.length + 1)), .optr 0 (k * 5)] [.flat (storeRow T) false] = some (avb b, [.flat (storeRow T) false]) ∧ (b = true ↔ ObjOk T o) := by
 rw [zbr code ext h6]
 have hlen := zms o.l.ok
 have hok : ObjOk T o ↔ (o.s = .empty ∧ o.fn = 0 ∧ (o.l.xs.length : Int) ≤ 65536 ∧ (o.l.xs.length : Int) ≤ o.room ∧ o.room ≤ 262144 ∧ heldOf T o.l.xs false = true) := by
  unfold ObjOk
  rw [if_neg (by omega), if_pos k4]
 rw [hok]
 clear hok
 have g0 : (storeRow T)[k * 5]? = some (.val (.int .u8 o.k)) := zcy (zqr ho) 0 (by omega)
 have g1 : (storeRow T)[k * 5 + 1]? = some (.val (.string o.s)) := zcy (zqr ho) 1 (by omega)
 have g2 : (storeRow T)[k * 5 + 2]? = some (o.l.iv) := zcy (zqr ho) 2 (by omega)
 have g3 : (storeRow T)[k * 5 + 3]? = some (.val (.int .i64 o.room)) := zcy (zqr ho) 3 (by omega)
 have g4 : (storeRow T)[k * 5 + 4]? = some (.val (.int .i64 o.fn)) := zcy (zqr ho) 4 (by omega)
 have hba := zav (ext := ext) h h' h2 h3 h4 T hb k o ho o.l.ok
 rw [zax] at hba
 rw [show decide (o.k = 6) = false by simp; omega] at hba
 simp only [mayMem] at hba
 have cSt : (o.s = .empty) = True := eq_true cS
 have cFt : (o.fn = 0) = True := eq_true cF
 have cRt : ((o.l.xs.length : Int) ≤ o.room) = True := eq_true cR
 have cQt : (o.room ≤ 262144) = True := eq_true cQ
 by_cases hh : heldOf T o.l.xs false = true
 case neg =>
  have hhf : heldOf T o.l.xs false = false := by simpa using hh
  rw [hhf] at hba
  exact ⟨false, by simp -implicitDefEqProofs [x652, k4, g0, g1, g2, g3, g4, hlen, hba, cSt, cFt, cRt, cQt], by simp [hhf]⟩
 rw [hh] at hba
 by_cases cN4 : (o.l.xs.length : Int) ≤ 65536
 case neg =>
  have cN4t : ((o.l.xs.length : Int) ≤ 65536) = False := eq_false cN4
  exact ⟨false, by simp -implicitDefEqProofs [x652, k4, g0, g1, g2, g3, g4, hlen, hba, cSt, cFt, cRt, cQt, cN4t], by simp [cS, cF, cR, cQ, cN4]⟩
 have cN4t : ((o.l.xs.length : Int) ≤ 65536) = True := eq_true cN4
 exact ⟨true, by simp -implicitDefEqProofs [x652, k4, g0, g1, g2, g3, g4, hlen, hba, cSt, cFt, cRt, cQt, cN4t], by simp [cS, cF, cR, cQ, cN4, hh]⟩
theorem may4 (h : code 651 = some x651) (h' : code 656 = some x656) (h2 : code 653 = some x653) (h3 : code 759 = some x759) (h4 : code 749 = some x749) (h5 : code 650 = some x650) (h6 : code 652 = some x652) (T : List Obj) (hb : T.length ≤ 1048576) (k : Nat) (o : Obj) (ho : T[k]? = some o) (k4 : o.k = 4) : ∃ b : Bool, callW code ext 652 [.osl 0 0 5 T.length (some (T.length + 1)), .optr 0 (k * 5)] [.flat (storeRow T) false] = some (avb b, [.flat (storeRow T) false]) ∧ (b = true ↔ ObjOk T o) := by
 by_cases cS : o.s = .empty
 case neg => exact may4_0 h h' h2 h3 h4 h5 h6 T hb k o ho k4 cS
 by_cases cF : o.fn = 0
 case neg => exact may4_1 h h' h2 h3 h4 h5 h6 T hb k o ho k4 cS cF
 by_cases cR : (o.l.xs.length : Int) ≤ o.room
 case neg => exact may4_2 h h' h2 h3 h4 h5 h6 T hb k o ho k4 cS cF cR
 by_cases cQ : o.room ≤ 262144
 case neg => exact may4_3 h h' h2 h3 h4 h5 h6 T hb k o ho k4 cS cF cR cQ
 exact may4_4 h h' h2 h3 h4 h5 h6 T hb k o ho k4 cS cF cR cQ
end
end Go.EX


set_option maxHeartbeats 1000000
set_option linter.unusedVariables false
set_option linter.unusedSimpArgs false
namespace Go.EX
section
variable {code : Nat → Option XFun} {ext : Calls'}
theorem may5_0 (h : code 651 = some x651) (h' : code 656 = some x656) (h2 : code 653 = some x653) (h3 : code 759 = some x759) (h4 : code 749 = some x749) (h5 : code 650 = some x650) (h6 : code 652 = some x652) (T : List Obj) (hb : T.length ≤ 1048576) (k : Nat) (o : Obj) (ho : T[k]? = some o) (k5 : o.k = 5) (cS : ¬ o.s = .empty) : ∃ b : Bool, callW code ext 652 [.osl 0 0 5 T.length (some (T.length + 1)), .optr 0 (k * 5)] [.flat (storeRow T) false] = some (avb b, [.flat (storeRow T) false]) ∧ (b = true ↔ ObjOk T o) := by
 rw [zbr code ext h6]
 have hlen := zms o.l.ok
 have hok : ObjOk T o ↔ (o.s = .empty ∧ o.fn = 0 ∧ (o.l.xs.length : Int).tmod 2 = 0 ∧ (o.l.xs.length : Int) ≤ 131072 ∧ (o.l.xs.length : Int) ≤ o.room ∧ o.room ≤ 262144 ∧ heldOf T o.l.xs false = true ∧ KeysOk T o.l.xs) := by
  unfold ObjOk
  rw [if_neg (by omega), if_neg (by omega), if_pos k5]
 rw [hok]
 clear hok
 have g0 : (storeRow T)[k * 5]? = some (.val (.int .u8 o.k)) := zcy (zqr ho) 0 (by omega)
 have g1 : (storeRow T)[k * 5 + 1]? = some (.val (.string o.s)) := zcy (zqr ho) 1 (by omega)
 have g2 : (storeRow T)[k * 5 + 2]? = some (o.l.iv) := zcy (zqr ho) 2 (by omega)
 have g3 : (storeRow T)[k * 5 + 3]? = some (.val (.int .i64 o.room)) := zcy (zqr ho) 3 (by omega)
 have g4 : (storeRow T)[k * 5 + 4]? = some (.val (.int .i64 o.fn)) := zcy (zqr ho) 4 (by omega)
 have hba := zav (ext := ext) h h' h2 h3 h4 T hb k o ho o.l.ok
 rw [zax] at hba
 rw [show decide (o.k = 6) = false by simp; omega] at hba
 simp only [mayMem] at hba
 have cSt : (o.s = .empty) = False := eq_false cS
 by_cases hh : heldOf T o.l.xs false = true
 case neg =>
  have hhf : heldOf T o.l.xs false = false := by simpa using hh
  rw [hhf] at hba
  exact ⟨false, by simp -implicitDefEqProofs [x652, k5, g0, g1, g2, g3, g4, hlen, hba, cSt], by simp [hhf]⟩
 rw [hh] at hba
 exact ⟨false, by simp -implicitDefEqProofs [x652, k5, g0, g1, g2, g3, g4, hlen, hba, cSt], by simp [cS, hh]⟩
theorem may5_1 (h : code 651 = some x651) (h' : code 656 = some x656) (h2 : code 653 = some x653) (h3 : code 759 = some x759) (h4 : code 749 = some x749) (h5 : code 650 = some x650) (h6 : code 652 = some x652) (T : List Obj) (hb : T.length ≤ 1048576) (k : Nat) (o : Obj) (ho : T[k]? = some o) (k5 : o.k = 5) (cS : o.s = .empty) (cF : ¬ o.fn = 0) : ∃ b : Bool, callW code ext 652 [.osl 0 0 5 T.length (some (T.length + 1)), .optr 0 (k * 5)] [.flat (storeRow T) false] = some (avb b, [.flat (storeRow T) false]) ∧ (b = true ↔ ObjOk T o) := by
 rw [zbr code ext h6]
 have hlen := zms o.l.ok
 have hok : ObjOk T o ↔ (o.s = .empty ∧ o.fn = 0 ∧ (o.l.xs.length : Int).tmod 2 = 0 ∧ (o.l.xs.length : Int) ≤ 131072 ∧ (o.l.xs.length : Int) ≤ o.room ∧ o.room ≤ 262144 ∧ heldOf T o.l.xs false = true ∧ KeysOk T o.l.xs) := by
  unfold ObjOk
  rw [if_neg (by omega), if_neg (by omega), if_pos k5]
 rw [hok]
 clear hok
 have g0 : (storeRow T)[k * 5]? = some (.val (.int .u8 o.k)) := zcy (zqr ho) 0 (by omega)
 have g1 : (storeRow T)[k * 5 + 1]? = some (.val (.string o.s)) := zcy (zqr ho) 1 (by omega)
 have g2 : (storeRow T)[k * 5 + 2]? = some (o.l.iv) := zcy (zqr ho) 2 (by omega)
 have g3 : (storeRow T)[k * 5 + 3]? = some (.val (.int .i64 o.room)) := zcy (zqr ho) 3 (by omega)
 have g4 : (storeRow T)[k * 5 + 4]? = some (.val (.int .i64 o.fn)) := zcy (zqr ho) 4 (by omega)
 have hba := zav (ext := ext) h h' h2 h3 h4 T hb k o ho o.l.ok
 rw [zax] at hba
 rw [show decide (o.k = 6) = false by simp; omega] at hba
 simp only [mayMem] at hba
 have cSt : (o.s = .empty) = True := eq_true cS
 have cFt : (o.fn = 0) = False := eq_false cF
 by_cases hh : heldOf T o.l.xs false = true
 case neg =>
  have hhf : heldOf T o.l.xs false = false := by simpa using hh
  rw [hhf] at hba
  exact ⟨false, by simp -implicitDefEqProofs [x652, k5, g0, g1, g2, g3, g4, hlen, hba, cSt, cFt], by simp [hhf]⟩
 rw [hh] at hba
 exact ⟨false, by simp -implicitDefEqProofs [x652, k5, g0, g1, g2, g3, g4, hlen, hba, cSt, cFt], by simp [cS, cF, hh]⟩
theorem may5_2 (h : code 651 = some x651) (h' : code 656 = some x656) (h2 : code 653 = some x653) (h3 : code 759 = some x759) (h4 : code 749 = some x749) (h5 : code 650 = some x650) (h6 : code 652 = some x652) (T : List Obj) (hb : T.length ≤ 1048576) (k : Nat) (o : Obj) (ho : T[k]? = some o) (k5 : o.k = 5) (cS : o.s = .empty) (cF : o.fn = 0) (cR : ¬ (o.l.xs.length : Int) ≤ o.room) : ∃ b : Bool, callW code ext 652 [.osl 0 0 5 T.length (some (T.length + 1)), .optr 0 (k * 5)] [.flat (storeRow T) false] = some (avb b, [.flat (storeRow T) false]) ∧ (b = true ↔ ObjOk T o) := by
 rw [zbr code ext h6]
 have hlen := zms o.l.ok
 have hok : ObjOk T o ↔ (o.s = .empty ∧ o.fn = 0 ∧ (o.l.xs.length : Int).tmod 2 = 0 ∧ (o.l.xs.length : Int) ≤ 131072 ∧ (o.l.xs.length : Int) ≤ o.room ∧ o.room ≤ 262144 ∧ heldOf T o.l.xs false = true ∧ KeysOk T o.l.xs) := by
  unfold ObjOk
  rw [if_neg (by omega), if_neg (by omega), if_pos k5]
 rw [hok]
 clear hok
 have g0 : (storeRow T)[k * 5]? = some (.val (.int .u8 o.k)) := zcy (zqr ho) 0 (by omega)
 have g1 : (storeRow T)[k * 5 + 1]? = some (.val (.string o.s)) := zcy (zqr ho) 1 (by omega)
 have g2 : (storeRow T)[k * 5 + 2]? = some (o.l.iv) := zcy (zqr ho) 2 (by omega)
 have g3 : (storeRow T)[k * 5 + 3]? = some (.val (.int .i64 o.room)) := zcy (zqr ho) 3 (by omega)
 have g4 : (storeRow T)[k * 5 + 4]? = some (.val (.int .i64 o.fn)) := zcy (zqr ho) 4 (by omega)
 have hba := zav (ext := ext) h h' h2 h3 h4 T hb k o ho o.l.ok
 rw [zax] at hba
 rw [show decide (o.k = 6) = false by simp; omega] at hba
 simp only [mayMem] at hba
 have cSt : (o.s = .empty) = True := eq_true cS
 have cFt : (o.fn = 0) = True := eq_true cF
 have cRt : ((o.l.xs.length : Int) ≤ o.room) = False := eq_false cR
 by_cases hh : heldOf T o.l.xs false = true
 case neg =>
  have hhf : heldOf T o.l.xs false = false := by simpa using hh
  rw [hhf] at hba
  exact ⟨false, by simp -implicitDefEqProofs [x652, k5, g0, g1, g2, g3, g4, hlen, hba, cSt, cFt, cRt], by simp [hhf]⟩
 rw [hh] at hba
 exact ⟨false, by simp -implicitDefEqProofs [x652, k5, g0, g1, g2, g3, g4, hlen, hba, cSt, cFt, cRt], by simp [cS, cF, cR, hh]⟩
theorem may5_3 (h : code 651 = some x651) (h' : code 656 = some x656) (h2 : code 653 = some x653) (h3 : code 759 = some x759) (h4 : code 749 = some x749) (h5 : code 650 = some x650) (h6 : code 652 = some x652) (T : List Obj) (hb : T.length ≤ 1048576) (k : Nat) (o : Obj) (ho : T[k]? = some o) (k5 : o.k = 5) (cS : o.s = .empty) (cF : o.fn = 0) (cR : (o.l.xs.length : Int) ≤ o.room) (cQ : ¬ o.room ≤ 262144) : ∃ b : Bool, callW code ext 652 [.osl 0 0 5 T.length (some (T.length + 1)), .optr 0 (k * 5)] [.flat (storeRow T) false] = some (avb b, [.flat (storeRow T) false]) ∧ (b = true ↔ ObjOk T o) := by
 rw [zbr code ext h6]
 have hlen := zms o.l.ok
 have hok : ObjOk T o ↔ (o.s = .empty ∧ o.fn = 0 ∧ (o.l.xs.length : Int).tmod 2 = 0 ∧ (o.l.xs.length : Int) ≤ 131072 ∧ (o.l.xs.length : Int) ≤ o.room ∧ o.room ≤ 262144 ∧ heldOf T o.l.xs false = true ∧ KeysOk T o.l.xs) := by
  unfold ObjOk
  rw [if_neg (by omega), if_neg (by omega), if_pos k5]
 rw [hok]
 clear hok
 have g0 : (storeRow T)[k * 5]? = some (.val (.int .u8 o.k)) := zcy (zqr ho) 0 (by omega)
 have g1 : (storeRow T)[k * 5 + 1]? = some (.val (.string o.s)) := zcy (zqr ho) 1 (by omega)
 have g2 : (storeRow T)[k * 5 + 2]? = some (o.l.iv) := zcy (zqr ho) 2 (by omega)
 have g3 : (storeRow T)[k * 5 + 3]? = some (.val (.int .i64 o.room)) := zcy (zqr ho) 3 (by omega)
 have g4 : (storeRow T)[k * 5 + 4]? = some (.val (.int .i64 o.fn)) := zcy (zqr ho) 4 (by omega)
 have hba := zav (ext := ext) h h' h2 h3 h4 T hb k o ho o.l.ok
 rw [zax] at hba
 rw [show decide (o.k = 6) = false by simp; omega] at hba
 simp only [mayMem] at hba
 have cSt : (o.s = .empty) = True := eq_true cS
 have cFt : (o.fn = 0) = True := eq_true cF
 have cRt : ((o.l.xs.length : Int) ≤ o.room) = True := eq_true cR
 have cQt : (o.room ≤ 262144) = False := eq_false cQ
 by_cases hh : heldOf T o.l.xs false = true
 case neg =>
  have hhf : heldOf T o.l.xs false = false := by simpa using hh
  rw [hhf] at hba
  exact ⟨false, by simp -implicitDefEqProofs [x652, k5, g0, g1, g2, g3, g4, hlen, hba, cSt, cFt, cRt, cQt], by simp [hhf]⟩
 rw [hh] at hba
 exact ⟨false, by simp -implicitDefEqProofs [x652, k5, g0, g1, g2, g3, g4, hlen, hba, cSt, cFt, cRt, cQt], by simp [cS, cF, cR, cQ, hh]⟩
theorem may5_4 (h : code 651 = some x651) (h' : code 656 = some x656) (h2 : code 653 = some x653) (h3 : code 759 = some x759) (h4 : code 749 = some x749) (h5 : code 650 = some x650) (h6 : code 652 = some x652) (T : List Obj) (hb : T.length ≤ 1048576) (k : Nat) (o : Obj) (ho : T[k]? = some o) (k5 : o.k = 5) (cS : o.s = .empty) (cF : o.fn = 0) (cR : (o.l.xs.length : Int) ≤ o.room) (cQ : o.room ≤ 262144) : ∃ b : Bool, callW code ext 652 [.osl 0 0 5 T.length (some (T.length + 1)), .optr 0 (k * 5)] [.flat (storeRow T) false] = some (avb b, [.flat (storeRow T) false]) ∧ (b = true ↔ ObjOk T o) := by
 rw [zbr code ext h6]
 have hlen := zms o.l.ok
 have hok : ObjOk T o ↔ (o.s = .empty ∧ o.fn = 0 ∧ (o.l.xs.length : Int).tmod 2 = 0 ∧ (o.l.xs.length : Int) ≤ 131072 ∧ (o.l.xs.length : Int) ≤ o.room ∧ o.room ≤ 262144 ∧ heldOf T o.l.xs false = true ∧ KeysOk T o.l.xs) := by
  unfold ObjOk
  rw [if_neg (by omega), if_neg (by omega), if_pos k5]
 rw [hok]
 clear hok
 have g0 : (storeRow T)[k * 5]? = some (.val (.int .u8 o.k)) := zcy (zqr ho) 0 (by omega)
 have g1 : (storeRow T)[k * 5 + 1]? = some (.val (.string o.s)) := zcy (zqr ho) 1 (by omega)
 have g2 : (storeRow T)[k * 5 + 2]? = some (o.l.iv) := zcy (zqr ho) 2 (by omega)
 have g3 : (storeRow T)[k * 5 + 3]? = some (.val (.int .i64 o.room)) := zcy (zqr ho) 3 (by omega)
 have g4 : (storeRow T)[k * 5 + 4]? = some (.val (.int .i64 o.fn)) := zcy (zqr ho) 4 (by omega)
 have hba := zav (ext := ext) h h' h2 h3 h4 T hb k o ho o.l.ok
 rw [zax] at hba
 rw [show decide (o.k = 6) = false by simp; omega] at hba
 simp only [mayMem] at hba
 have cSt : (o.s = .empty) = True := eq_true cS
 have cFt : (o.fn = 0) = True := eq_true cF
 have cRt : ((o.l.xs.length : Int) ≤ o.room) = True := eq_true cR
 have cQt : (o.room ≤ 262144) = True := eq_true cQ
 by_cases hh : heldOf T o.l.xs false = true
 case neg =>
  have hhf : heldOf T o.l.xs false = false := by simpa using hh
  rw [hhf] at hba
  exact ⟨false, by simp -implicitDefEqProofs [x652, k5, g0, g1, g2, g3, g4, hlen, hba, cSt, cFt, cRt, cQt], by simp [hhf]⟩
 rw [hh] at hba
 by_cases cE : (o.l.xs.length : Int).tmod 2 = 0
 case neg =>
  have cEt : ((o.l.xs.length : Int).tmod 2 = 0) = False := eq_false cE
  first
  | (exfalso; omega)
  | exact ⟨false, by simp -implicitDefEqProofs [x652, k5, g0, g1, g2, g3, g4, hlen, hba, cSt, cFt, cRt, cQt, cEt], by simp [cS, cF, cR, cQ, cE]⟩
 have cEt : ((o.l.xs.length : Int).tmod 2 = 0) = True := eq_true cE
 by_cases cN5 : (o.l.xs.length : Int) ≤ 131072
 case neg =>
  have cN5t : ((o.l.xs.length : Int) ≤ 131072) = False := eq_false cN5
  first
  | (exfalso; omega)
  | exact ⟨false, by simp -implicitDefEqProofs [x652, k5, g0, g1, g2, g3, g4, hlen, hba, cSt, cFt, cRt, cQt, cEt, cN5t], by simp [cS, cF, cR, cQ, cE, cN5]⟩
 have cN5t : ((o.l.xs.length : Int) ≤ 131072) = True := eq_true cN5
 have hev : o.l.xs.length % 2 = 0 := by
  have h9 := cE
  rw [Int.tmod_eq_emod_of_nonneg (by omega)] at h9
  omega
 have hkv : ∀ v ∈ o.l.xs, valOf T v = true := by
  intro v hv
  have h1 := List.all_eq_true.1 hh v hv
  simp only [Bool.and_eq_true] at h1
  exact h1.1
 have hkk := zhs (ext := ext) h h5 T hb o.l.ok hev
 have hki := zhr T o.l.xs hev hkv
 have hkb : (decide ((normsTo T o.l.xs o.l.xs.length).length = o.l.xs.length / 2) = true) ↔ KeysOk T o.l.xs := by rw [decide_eq_true_eq, hki]
 generalize decide ((normsTo T o.l.xs o.l.xs.length).length = o.l.xs.length / 2) = bk at hkk hkb
 refine ⟨bk, ?_, by rw [hkb]; simp [cS, cF, cR, cQ, cE, cN5, hh]⟩
 simp -implicitDefEqProofs [x652, k5, g0, g1, g2, g3, g4, hlen, hba, cSt, cFt, cRt, cQt, cEt, cN5t, hkk]
theorem may5 (h : code 651 = some x651) (h' : code 656 = some x656) (h2 : code 653 = some x653) (h3 : code 759 = some x759) (h4 : code 749 = some x749) (h5 : code 650 = some x650) (h6 : code 652 = some x652) (T : List Obj) (hb : T.length ≤ 1048576) (k : Nat) (o : Obj) (ho : T[k]? = some o) (k5 : o.k = 5) : ∃ b : Bool, callW code ext 652 [.osl 0 0 5 T.length (some (T.length + 1)), .optr 0 (k * 5)] [.flat (storeRow T) false] = some (avb b, [.flat (storeRow T) false]) ∧ (b = true ↔ ObjOk T o) := by
 by_cases cS : o.s = .empty
 case neg => exact may5_0 h h' h2 h3 h4 h5 h6 T hb k o ho k5 cS
 by_cases cF : o.fn = 0
 case neg => exact may5_1 h h' h2 h3 h4 h5 h6 T hb k o ho k5 cS cF
 by_cases cR : (o.l.xs.length : Int) ≤ o.room
 case neg => exact may5_2 h h' h2 h3 h4 h5 h6 T hb k o ho k5 cS cF cR
 by_cases cQ : o.room ≤ 262144
 case neg => exact may5_3 h h' h2 h3 h4 h5 h6 T hb k o ho k5 cS cF cR cQ
 exact may5_4 h h' h2 h3 h4 h5 h6 T hb k o ho k5 cS cF cR cQ
end
end Go.EX


set_option maxHeartbeats 1000000
set_option linter.unusedVariables false
set_option linter.unusedSimpArgs false
namespace Go.EX
section
variable {code : Nat → Option XFun} {ext : Calls'}
theorem may6_0 (h : code 651 = some x651) (h' : code 656 = some x656) (h2 : code 653 = some x653) (h3 : code 759 = some x759) (h4 : code 749 = some x749) (h5 : code 650 = some x650) (h6 : code 652 = some x652) (T : List Obj) (hb : T.length ≤ 1048576) (k : Nat) (o : Obj) (ho : T[k]? = some o) (k6 : o.k = 6) (cS : ¬ o.s = .empty) : ∃ b : Bool, callW code ext 652 [.osl 0 0 5 T.length (some (T.length + 1)), .optr 0 (k * 5)] [.flat (storeRow T) false] = some (avb b, [.flat (storeRow T) false]) ∧ (b = true ↔ ObjOk T o) := by
 rw [zbr code ext h6]
 have hlen := zms o.l.ok
 have hok : ObjOk T o ↔ (o.s = .empty ∧ o.room = 0 ∧ 0 ≤ o.fn ∧ o.fn < 256 ∧ heldOf T o.l.xs true = true) := by
  unfold ObjOk
  rw [if_neg (by omega), if_neg (by omega), if_neg (by omega), if_pos k6]
 rw [hok]
 clear hok
 have g0 : (storeRow T)[k * 5]? = some (.val (.int .u8 o.k)) := zcy (zqr ho) 0 (by omega)
 have g1 : (storeRow T)[k * 5 + 1]? = some (.val (.string o.s)) := zcy (zqr ho) 1 (by omega)
 have g2 : (storeRow T)[k * 5 + 2]? = some (o.l.iv) := zcy (zqr ho) 2 (by omega)
 have g3 : (storeRow T)[k * 5 + 3]? = some (.val (.int .i64 o.room)) := zcy (zqr ho) 3 (by omega)
 have g4 : (storeRow T)[k * 5 + 4]? = some (.val (.int .i64 o.fn)) := zcy (zqr ho) 4 (by omega)
 have hba := zav (ext := ext) h h' h2 h3 h4 T hb k o ho o.l.ok
 rw [zax] at hba
 rw [show decide (o.k = 6) = true by simp [k6]] at hba
 simp only [mayMem] at hba
 have cSt : (o.s = .empty) = False := eq_false cS
 by_cases hh : heldOf T o.l.xs true = true
 case neg =>
  have hhf : heldOf T o.l.xs true = false := by simpa using hh
  rw [hhf] at hba
  exact ⟨false, by simp -implicitDefEqProofs [x652, k6, g0, g1, g2, g3, g4, hlen, hba, cSt], by simp [hhf]⟩
 rw [hh] at hba
 exact ⟨false, by simp -implicitDefEqProofs [x652, k6, g0, g1, g2, g3, g4, hlen, hba, cSt], by simp [cS, hh]⟩
theorem may6_1 (h : code 651 = some x651) (h' : code 656 = some x656) (h2 : code 653 = some x653) (h3 : code 759 = some x759) (h4 : code 749 = some x749) (h5 : code 650 = some x650) (h6 : code 652 = some x652) (T : List Obj) (hb : T.length ≤ 1048576) (k : Nat) (o : Obj) (ho : T[k]? = some o) (k6 : o.k = 6) (cS : o.s = .empty) (cF : ¬ o.fn = 0) : ∃ b : Bool, callW code ext 652 [.osl 0 0 5 T.length (some (T.length + 1)), .optr 0 (k * 5)] [.flat (storeRow T) false] = some (avb b, [.flat (storeRow T) false]) ∧ (b = true ↔ ObjOk T o) := by
 rw [zbr code ext h6]
 have hlen := zms o.l.ok
 have hok : ObjOk T o ↔ (o.s = .empty ∧ o.room = 0 ∧ 0 ≤ o.fn ∧ o.fn < 256 ∧ heldOf T o.l.xs true = true) := by
  unfold ObjOk
  rw [if_neg (by omega), if_neg (by omega), if_neg (by omega), if_pos k6]
 rw [hok]
 clear hok
 have g0 : (storeRow T)[k * 5]? = some (.val (.int .u8 o.k)) := zcy (zqr ho) 0 (by omega)
 have g1 : (storeRow T)[k * 5 + 1]? = some (.val (.string o.s)) := zcy (zqr ho) 1 (by omega)
 have g2 : (storeRow T)[k * 5 + 2]? = some (o.l.iv) := zcy (zqr ho) 2 (by omega)
 have g3 : (storeRow T)[k * 5 + 3]? = some (.val (.int .i64 o.room)) := zcy (zqr ho) 3 (by omega)
 have g4 : (storeRow T)[k * 5 + 4]? = some (.val (.int .i64 o.fn)) := zcy (zqr ho) 4 (by omega)
 have hba := zav (ext := ext) h h' h2 h3 h4 T hb k o ho o.l.ok
 rw [zax] at hba
 rw [show decide (o.k = 6) = true by simp [k6]] at hba
 simp only [mayMem] at hba
 have cSt : (o.s = .empty) = True := eq_true cS
 have cFt : (o.fn = 0) = False := eq_false cF
 by_cases hh : heldOf T o.l.xs true = true
 case neg =>
  have hhf : heldOf T o.l.xs true = false := by simpa using hh
  rw [hhf] at hba
  exact ⟨false, by simp -implicitDefEqProofs [x652, k6, g0, g1, g2, g3, g4, hlen, hba, cSt, cFt], by simp [hhf]⟩
 rw [hh] at hba
 by_cases cZ : o.room = 0
 case neg =>
  have cZt : (o.room = 0) = False := eq_false cZ
  first
  | (exfalso; omega)
  | exact ⟨false, by simp -implicitDefEqProofs [x652, k6, g0, g1, g2, g3, g4, hlen, hba, cSt, cFt, cZt], by simp [cS, cF, cZ]⟩
 have cZt : (o.room = 0) = True := eq_true cZ
 by_cases cG : 0 ≤ o.fn
 case neg =>
  have cGt : (0 ≤ o.fn) = False := eq_false cG
  first
  | (exfalso; omega)
  | exact ⟨false, by simp -implicitDefEqProofs [x652, k6, g0, g1, g2, g3, g4, hlen, hba, cSt, cFt, cZt, cGt], by simp [cS, cF, cZ, cG]⟩
 have cGt : (0 ≤ o.fn) = True := eq_true cG
 by_cases cH : o.fn < 256
 case neg =>
  have cHt : (o.fn < 256) = False := eq_false cH
  first
  | (exfalso; omega)
  | exact ⟨false, by simp -implicitDefEqProofs [x652, k6, g0, g1, g2, g3, g4, hlen, hba, cSt, cFt, cZt, cGt, cHt], by simp [cS, cF, cZ, cG, cH]⟩
 have cHt : (o.fn < 256) = True := eq_true cH
 exact ⟨true, by simp -implicitDefEqProofs [x652, k6, g0, g1, g2, g3, g4, hlen, hba, cSt, cFt, cZt, cGt, cHt], by simp [cS, cF, cZ, cG, cH, hh]⟩
theorem may6_2 (h : code 651 = some x651) (h' : code 656 = some x656) (h2 : code 653 = some x653) (h3 : code 759 = some x759) (h4 : code 749 = some x749) (h5 : code 650 = some x650) (h6 : code 652 = some x652) (T : List Obj) (hb : T.length ≤ 1048576) (k : Nat) (o : Obj) (ho : T[k]? = some o) (k6 : o.k = 6) (cS : o.s = .empty) (cF : o.fn = 0) (cR : ¬ (o.l.xs.length : Int) ≤ o.room) : ∃ b : Bool, callW code ext 652 [.osl 0 0 5 T.length (some (T.length + 1)), .optr 0 (k * 5)] [.flat (storeRow T) false] = some (avb b, [.flat (storeRow T) false]) ∧ (b = true ↔ ObjOk T o) := by
 rw [zbr code ext h6]
 have hlen := zms o.l.ok
 have hok : ObjOk T o ↔ (o.s = .empty ∧ o.room = 0 ∧ 0 ≤ o.fn ∧ o.fn < 256 ∧ heldOf T o.l.xs true = true) := by
  unfold ObjOk
  rw [if_neg (by omega), if_neg (by omega), if_neg (by omega), if_pos k6]
 rw [hok]
 clear hok
 have g0 : (storeRow T)[k * 5]? = some (.val (.int .u8 o.k)) := zcy (zqr ho) 0 (by omega)
 have g1 : (storeRow T)[k * 5 + 1]? = some (.val (.string o.s)) := zcy (zqr ho) 1 (by omega)
 have g2 : (storeRow T)[k * 5 + 2]? = some (o.l.iv) := zcy (zqr ho) 2 (by omega)
 have g3 : (storeRow T)[k * 5 + 3]? = some (.val (.int .i64 o.room)) := zcy (zqr ho) 3 (by omega)
 have g4 : (storeRow T)[k * 5 + 4]? = some (.val (.int .i64 o.fn)) := zcy (zqr ho) 4 (by omega)
 have hba := zav (ext := ext) h h' h2 h3 h4 T hb k o ho o.l.ok
 rw [zax] at hba
 rw [show decide (o.k = 6) = true by simp [k6]] at hba
 simp only [mayMem] at hba
 have cSt : (o.s = .empty) = True := eq_true cS
 have cFt : (o.fn = 0) = True := eq_true cF
 have cRt : ((o.l.xs.length : Int) ≤ o.room) = False := eq_false cR
 by_cases hh : heldOf T o.l.xs true = true
 case neg =>
  have hhf : heldOf T o.l.xs true = false := by simpa using hh
  rw [hhf] at hba
  exact ⟨false, by simp -implicitDefEqProofs [x652, k6, g0, g1, g2, g3, g4, hlen, hba, cSt, cFt, cRt], by simp [hhf]⟩
 rw [hh] at hba
 by_cases cZ : o.room = 0
 case neg =>
  have cZt : (o.room = 0) = False := eq_false cZ
  first
  | (exfalso; omega)
  | exact ⟨false, by simp -implicitDefEqProofs [x652, k6, g0, g1, g2, g3, g4, hlen, hba, cSt, cFt, cRt, cZt], by simp [cS, cF, cR, cZ]⟩
 have cZt : (o.room = 0) = True := eq_true cZ
 by_cases cG : 0 ≤ o.fn
 case neg =>
  have cGt : (0 ≤ o.fn) = False := eq_false cG
  first
  | (exfalso; omega)
  | exact ⟨false, by simp -implicitDefEqProofs [x652, k6, g0, g1, g2, g3, g4, hlen, hba, cSt, cFt, cRt, cZt, cGt], by simp [cS, cF, cR, cZ, cG]⟩
 have cGt : (0 ≤ o.fn) = True := eq_true cG
 by_cases cH : o.fn < 256
 case neg =>
  have cHt : (o.fn < 256) = False := eq_false cH
  first
  | (exfalso; omega)
  | exact ⟨false, by simp -implicitDefEqProofs [x652, k6, g0, g1, g2, g3, g4, hlen, hba, cSt, cFt, cRt, cZt, cGt, cHt], by simp [cS, cF, cR, cZ, cG, cH]⟩
 have cHt : (o.fn < 256) = True := eq_true cH
 exact ⟨true, by simp -implicitDefEqProofs [x652, k6, g0, g1, g2, g3, g4, hlen, hba, cSt, cFt, cRt, cZt, cGt, cHt], by simp [cS, cF, cR, cZ, cG, cH, hh]⟩
theorem may6_3 (h : code 651 = some x651) (h' : code 656 = some x656) (h2 : code 653 = some x653) (h3 : code 759 = some x759) (h4 : code 749 = some x749) (h5 : code 650 = some x650) (h6 : code 652 = some x652) (T : List Obj) (hb : T.length ≤ 1048576) (k : Nat) (o : Obj) (ho : T[k]? = some o) (k6 : o.k = 6) (cS : o.s = .empty) (cF : o.fn = 0) (cR : (o.l.xs.length : Int) ≤ o.room) (cQ : ¬ o.room ≤ 262144) : ∃ b : Bool, callW code ext 652 [.osl 0 0 5 T.length (some (T.length + 1)), .optr 0 (k * 5)] [.flat (storeRow T) false] = some (avb b, [.flat (storeRow T) false]) ∧ (b = true ↔ ObjOk T o) := by
 rw [zbr code ext h6]
 have hlen := zms o.l.ok
 have hok : ObjOk T o ↔ (o.s = .empty ∧ o.room = 0 ∧ 0 ≤ o.fn ∧ o.fn < 256 ∧ heldOf T o.l.xs true = true) := by
  unfold ObjOk
  rw [if_neg (by omega), if_neg (by omega), if_neg (by omega), if_pos k6]
 rw [hok]
 clear hok
 have g0 : (storeRow T)[k * 5]? = some (.val (.int .u8 o.k)) := zcy (zqr ho) 0 (by omega)
 have g1 : (storeRow T)[k * 5 + 1]? = some (.val (.string o.s)) := zcy (zqr ho) 1 (by omega)
 have g2 : (storeRow T)[k * 5 + 2]? = some (o.l.iv) := zcy (zqr ho) 2 (by omega)
 have g3 : (storeRow T)[k * 5 + 3]? = some (.val (.int .i64 o.room)) := zcy (zqr ho) 3 (by omega)
 have g4 : (storeRow T)[k * 5 + 4]? = some (.val (.int .i64 o.fn)) := zcy (zqr ho) 4 (by omega)
 have hba := zav (ext := ext) h h' h2 h3 h4 T hb k o ho o.l.ok
 rw [zax] at hba
 rw [show decide (o.k = 6) = true by simp [k6]] at hba
 simp only [mayMem] at hba
 have cSt : (o.s = .empty) = True := eq_true cS
 have cFt : (o.fn = 0) = True := eq_true cF
 have cRt : ((o.l.xs.length : Int) ≤ o.room) = True := eq_true cR
 have cQt : (o.room ≤ 262144) = False := eq_false cQ
 by_cases hh : heldOf T o.l.xs true = true
 case neg =>
  have hhf : heldOf T o.l.xs true = false := by simpa using hh
  rw [hhf] at hba
  exact ⟨false, by simp -implicitDefEqProofs [x652, k6, g0, g1, g2, g3, g4, hlen, hba, cSt, cFt, cRt, cQt], by simp [hhf]⟩
 rw [hh] at hba
 by_cases cZ : o.room = 0
 case neg =>
  have cZt : (o.room = 0) = False := eq_false cZ
  first
  | (exfalso; omega)
  | exact ⟨false, by simp -implicitDefEqProofs [x652, k6, g0, g1, g2, g3, g4, hlen, hba, cSt, cFt, cRt, cQt, cZt], by simp [cS, cF, cR, cQ, cZ]⟩
 have cZt : (o.room = 0) = True := eq_true cZ
 by_cases cG : 0 ≤ o.fn
 case neg =>
  have cGt : (0 ≤ o.fn) = False := eq_false cG
  first
  | (exfalso; omega)
  | exact ⟨false, by simp -implicitDefEqProofs [x652, k6, g0, g1, g2, g3, g4, hlen, hba, cSt, cFt, cRt, cQt, cZt, cGt], by simp [cS, cF, cR, cQ, cZ, cG]⟩
 have cGt : (0 ≤ o.fn) = True := eq_true cG
 by_cases cH : o.fn < 256
 case neg =>
  have cHt : (o.fn < 256) = False := eq_false cH
  first
  | (exfalso; omega)
  | exact ⟨false, by simp -implicitDefEqProofs [x652, k6, g0, g1, g2, g3, g4, hlen, hba, cSt, cFt, cRt, cQt, cZt, cGt, cHt], by simp [cS, cF, cR, cQ, cZ, cG, cH]⟩
 have cHt : (o.fn < 256) = True := eq_true cH
 exact ⟨true, by simp -implicitDefEqProofs [x652, k6, g0, g1, g2, g3, g4, hlen, hba, cSt, cFt, cRt, cQt, cZt, cGt, cHt], by simp [cS, cF, cR, cQ, cZ, cG, cH, hh]⟩
theorem may6_4 (h : code 651 = some x651) (h' : code 656 = some x656) (h2 : code 653 = some x653) (h3 : code 759 = some x759) (h4 : code 749 = some x749) (h5 : code 650 = some x650) (h6 : code 652 = some x652) (T : List Obj) (hb : T.length ≤ 1048576) (k : Nat) (o : Obj) (ho : T[k]? = some o) (k6 : o.k = 6) (cS : o.s = .empty) (cF : o.fn = 0) (cR : (o.l.xs.length : Int) ≤ o.room) (cQ : o.room ≤ 262144) : ∃ b : Bool, callW code ext 652 [.osl 0 0 5 T.length (some (T.length + 1)), .optr 0 (k * 5)] [.flat (storeRow T) false] = some (avb b, [.flat (storeRow T) false]) ∧ (b = true ↔ ObjOk T o) := by
 rw [zbr code ext h6]
 have hlen := zms o.l.ok
 have hok : ObjOk T o ↔ (o.s = .empty ∧ o.room = 0 ∧ 0 ≤ o.fn ∧ o.fn < 256 ∧ heldOf T o.l.xs true = true) := by
  unfold ObjOk
  rw [if_neg (by omega), if_neg (by omega), if_neg (by omega), if_pos k6]
 rw [hok]
 clear hok
 have g0 : (storeRow T)[k * 5]? = some (.val (.int .u8 o.k)) := zcy (zqr ho) 0 (by omega)
 have g1 : (storeRow T)[k * 5 + 1]? = some (.val (.string o.s)) := zcy (zqr ho) 1 (by omega)
 have g2 : (storeRow T)[k * 5 + 2]? = some (o.l.iv) := zcy (zqr ho) 2 (by omega)
 have g3 : (storeRow T)[k * 5 + 3]? = some (.val (.int .i64 o.room)) := zcy (zqr ho) 3 (by omega)
 have g4 : (storeRow T)[k * 5 + 4]? = some (.val (.int .i64 o.fn)) := zcy (zqr ho) 4 (by omega)
 have hba := zav (ext := ext) h h' h2 h3 h4 T hb k o ho o.l.ok
 rw [zax] at hba
 rw [show decide (o.k = 6) = true by simp [k6]] at hba
 simp only [mayMem] at hba
 have cSt : (o.s = .empty) = True := eq_true cS
 have cFt : (o.fn = 0) = True := eq_true cF
 have cRt : ((o.l.xs.length : Int) ≤ o.room) = True := eq_true cR
 have cQt : (o.room ≤ 262144) = True := eq_true cQ
 by_cases hh : heldOf T o.l.xs true = true
 case neg =>
  have hhf : heldOf T o.l.xs true = false := by simpa using hh
  rw [hhf] at hba
  exact ⟨false, by simp -implicitDefEqProofs [x652, k6, g0, g1, g2, g3, g4, hlen, hba, cSt, cFt, cRt, cQt], by simp [hhf]⟩
 rw [hh] at hba
 by_cases cZ : o.room = 0
 case neg =>
  have cZt : (o.room = 0) = False := eq_false cZ
  first
  | (exfalso; omega)
  | exact ⟨false, by simp -implicitDefEqProofs [x652, k6, g0, g1, g2, g3, g4, hlen, hba, cSt, cFt, cRt, cQt, cZt], by simp [cS, cF, cR, cQ, cZ]⟩
 have cZt : (o.room = 0) = True := eq_true cZ
 by_cases cG : 0 ≤ o.fn
 case neg =>
  have cGt : (0 ≤ o.fn) = False := eq_false cG
  first
  | (exfalso; omega)
  | exact ⟨false, by simp -implicitDefEqProofs [x652, k6, g0, g1, g2, g3, g4, hlen, hba, cSt, cFt, cRt, cQt, cZt, cGt], by simp [cS, cF, cR, cQ, cZ, cG]⟩
 have cGt : (0 ≤ o.fn) = True := eq_true cG
 by_cases cH : o.fn < 256
 case neg =>
  have cHt : (o.fn < 256) = False := eq_false cH
  first
  | (exfalso; omega)
  | exact ⟨false, by simp -implicitDefEqProofs [x652, k6, g0, g1, g2, g3, g4, hlen, hba, cSt, cFt, cRt, cQt, cZt, cGt, cHt], by simp [cS, cF, cR, cQ, cZ, cG, cH]⟩
 have cHt : (o.fn < 256) = True := eq_true cH
 exact ⟨true, by simp -implicitDefEqProofs [x652, k6, g0, g1, g2, g3, g4, hlen, hba, cSt, cFt, cRt, cQt, cZt, cGt, cHt], by simp [cS, cF, cR, cQ, cZ, cG, cH, hh]⟩
theorem may6 (h : code 651 = some x651) (h' : code 656 = some x656) (h2 : code 653 = some x653) (h3 : code 759 = some x759) (h4 : code 749 = some x749) (h5 : code 650 = some x650) (h6 : code 652 = some x652) (T : List Obj) (hb : T.length ≤ 1048576) (k : Nat) (o : Obj) (ho : T[k]? = some o) (k6 : o.k = 6) : ∃ b : Bool, callW code ext 652 [.osl 0 0 5 T.length (some (T.length + 1)), .optr 0 (k * 5)] [.flat (storeRow T) false] = some (avb b, [.flat (storeRow T) false]) ∧ (b = true ↔ ObjOk T o) := by
 by_cases cS : o.s = .empty
 case neg => exact may6_0 h h' h2 h3 h4 h5 h6 T hb k o ho k6 cS
 by_cases cF : o.fn = 0
 case neg => exact may6_1 h h' h2 h3 h4 h5 h6 T hb k o ho k6 cS cF
 by_cases cR : (o.l.xs.length : Int) ≤ o.room
 case neg => exact may6_2 h h' h2 h3 h4 h5 h6 T hb k o ho k6 cS cF cR
 by_cases cQ : o.room ≤ 262144
 case neg => exact may6_3 h h' h2 h3 h4 h5 h6 T hb k o ho k6 cS cF cR cQ
 exact may6_4 h h' h2 h3 h4 h5 h6 T hb k o ho k6 cS cF cR cQ
end
end Go.EX


set_option maxHeartbeats 1000000
set_option linter.unusedVariables false
set_option linter.unusedSimpArgs false
namespace Go.EX
section
variable {code : Nat → Option XFun} {ext : Calls'}
theorem may7_0 (h : code 651 = some x651) (h' : code 656 = some x656) (h2 : code 653 = some x653) (h3 : code 759 = some x759) (h4 : code 749 = some x749) (h5 : code 650 = some x650) (h6 : code 652 = some x652) (T : List Obj) (hb : T.length ≤ 1048576) (k : Nat) (o : Obj) (ho : T[k]? = some o) (k3 : ¬ o.k = 3) (k4 : ¬ o.k = 4) (k5 : ¬ o.k = 5) (k6 : ¬ o.k = 6) (cS : ¬ o.s = .empty) : ∃ b : Bool, callW code ext 652 [.osl 0 0 5 T.length (some (T.length + 1)), .optr 0 (k * 5)] [.flat (storeRow T) false] = some (avb b, [.flat (storeRow T) false]) ∧ (b = true ↔ ObjOk T o) := by
 rw [zbr code ext h6]
 have hlen := zms o.l.ok
 have hok : ObjOk T o ↔ (o.s = .empty ∧ o.room = 0 ∧ o.fn = 0 ∧ (o.l.xs.length : Int) = 1 ∧ heldOf T o.l.xs false = true) := by
  unfold ObjOk
  rw [if_neg k3, if_neg k4, if_neg k5, if_neg k6]
 rw [hok]
 clear hok
 have g0 : (storeRow T)[k * 5]? = some (.val (.int .u8 o.k)) := zcy (zqr ho) 0 (by omega)
 have g1 : (storeRow T)[k * 5 + 1]? = some (.val (.string o.s)) := zcy (zqr ho) 1 (by omega)
 have g2 : (storeRow T)[k * 5 + 2]? = some (o.l.iv) := zcy (zqr ho) 2 (by omega)
 have g3 : (storeRow T)[k * 5 + 3]? = some (.val (.int .i64 o.room)) := zcy (zqr ho) 3 (by omega)
 have g4 : (storeRow T)[k * 5 + 4]? = some (.val (.int .i64 o.fn)) := zcy (zqr ho) 4 (by omega)
 have hba := zav (ext := ext) h h' h2 h3 h4 T hb k o ho o.l.ok
 rw [zax] at hba
 rw [show decide (o.k = 6) = false by simp; omega] at hba
 simp only [mayMem] at hba
 have cSt : (o.s = .empty) = False := eq_false cS
 by_cases hh : heldOf T o.l.xs false = true
 case neg =>
  have hhf : heldOf T o.l.xs false = false := by simpa using hh
  rw [hhf] at hba
  exact ⟨false, by simp -implicitDefEqProofs [x652, k3, k4, k5, k6, g0, g1, g2, g3, g4, hlen, hba, cSt], by simp [hhf]⟩
 rw [hh] at hba
 exact ⟨false, by simp -implicitDefEqProofs [x652, k3, k4, k5, k6, g0, g1, g2, g3, g4, hlen, hba, cSt], by simp [cS, hh]⟩
theorem may7_1 (h : code 651 = some x651) (h' : code 656 = some x656) (h2 : code 653 = some x653) (h3 : code 759 = some x759) (h4 : code 749 = some x749) (h5 : code 650 = some x650) (h6 : code 652 = some x652) (T : List Obj) (hb : T.length ≤ 1048576) (k : Nat) (o : Obj) (ho : T[k]? = some o) (k3 : ¬ o.k = 3) (k4 : ¬ o.k = 4) (k5 : ¬ o.k = 5) (k6 : ¬ o.k = 6) (cS : o.s = .empty) (cF : ¬ o.fn = 0) : ∃ b : Bool, callW code ext 652 [.osl 0 0 5 T.length (some (T.length + 1)), .optr 0 (k * 5)] [.flat (storeRow T) false] = some (avb b, [.flat (storeRow T) false]) ∧ (b = true ↔ ObjOk T o) := by
 rw [zbr code ext h6]
 have hlen := zms o.l.ok
 have hok : ObjOk T o ↔ (o.s = .empty ∧ o.room = 0 ∧ o.fn = 0 ∧ (o.l.xs.length : Int) = 1 ∧ heldOf T o.l.xs false = true) := by
  unfold ObjOk
  rw [if_neg k3, if_neg k4, if_neg k5, if_neg k6]
 rw [hok]
 clear hok
 have g0 : (storeRow T)[k * 5]? = some (.val (.int .u8 o.k)) := zcy (zqr ho) 0 (by omega)
 have g1 : (storeRow T)[k * 5 + 1]? = some (.val (.string o.s)) := zcy (zqr ho) 1 (by omega)
 have g2 : (storeRow T)[k * 5 + 2]? = some (o.l.iv) := zcy (zqr ho) 2 (by omega)
 have g3 : (storeRow T)[k * 5 + 3]? = some (.val (.int .i64 o.room)) := zcy (zqr ho) 3 (by omega)
 have g4 : (storeRow T)[k * 5 + 4]? = some (.val (.int .i64 o.fn)) := zcy (zqr ho) 4 (by omega)
 have hba := zav (ext := ext) h h' h2 h3 h4 T hb k o ho o.l.ok
 rw [zax] at hba
 rw [show decide (o.k = 6) = false by simp; omega] at hba
 simp only [mayMem] at hba
 have cSt : (o.s = .empty) = True := eq_true cS
 have cFt : (o.fn = 0) = False := eq_false cF
 by_cases hh : heldOf T o.l.xs false = true
 case neg =>
  have hhf : heldOf T o.l.xs false = false := by simpa using hh
  rw [hhf] at hba
  exact ⟨false, by simp -implicitDefEqProofs [x652, k3, k4, k5, k6, g0, g1, g2, g3, g4, hlen, hba, cSt, cFt], by simp [hhf]⟩
 rw [hh] at hba
 by_cases cZ : o.room = 0
 case neg =>
  have cZt : (o.room = 0) = False := eq_false cZ
  exact ⟨false, by simp -implicitDefEqProofs [x652, k3, k4, k5, k6, g0, g1, g2, g3, g4, hlen, hba, cSt, cFt, cZt], by simp [cS, cF, cZ]⟩
 have cZt : (o.room = 0) = True := eq_true cZ
 exact ⟨false, by simp -implicitDefEqProofs [x652, k3, k4, k5, k6, g0, g1, g2, g3, g4, hlen, hba, cSt, cFt, cZt], by simp [cS, cF, cZ, hh]⟩
theorem may7_2 (h : code 651 = some x651) (h' : code 656 = some x656) (h2 : code 653 = some x653) (h3 : code 759 = some x759) (h4 : code 749 = some x749) (h5 : code 650 = some x650) (h6 : code 652 = some x652) (T : List Obj) (hb : T.length ≤ 1048576) (k : Nat) (o : Obj) (ho : T[k]? = some o) (k3 : ¬ o.k = 3) (k4 : ¬ o.k = 4) (k5 : ¬ o.k = 5) (k6 : ¬ o.k = 6) (cS : o.s = .empty) (cF : o.fn = 0) (cR : ¬ (o.l.xs.length : Int) ≤ o.room) : ∃ b : Bool, callW code ext 652 [.osl 0 0 5 T.length (some (T.length + 1)), .optr 0 (k * 5)] [.flat (storeRow T) false] = some (avb b, [.flat (storeRow T) false]) ∧ (b = true ↔ ObjOk T o) := by
 rw [zbr code ext h6]
 have hlen := zms o.l.ok
 have hok : ObjOk T o ↔ (o.s = .empty ∧ o.room = 0 ∧ o.fn = 0 ∧ (o.l.xs.length : Int) = 1 ∧ heldOf T o.l.xs false = true) := by
  unfold ObjOk
  rw [if_neg k3, if_neg k4, if_neg k5, if_neg k6]
 rw [hok]
 clear hok
 have g0 : (storeRow T)[k * 5]? = some (.val (.int .u8 o.k)) := zcy (zqr ho) 0 (by omega)
 have g1 : (storeRow T)[k * 5 + 1]? = some (.val (.string o.s)) := zcy (zqr ho) 1 (by omega)
 have g2 : (storeRow T)[k * 5 + 2]? = some (o.l.iv) := zcy (zqr ho) 2 (by omega)
 have g3 : (storeRow T)[k * 5 + 3]? = some (.val (.int .i64 o.room)) := zcy (zqr ho) 3 (by omega)
 have g4 : (storeRow T)[k * 5 + 4]? = some (.val (.int .i64 o.fn)) := zcy (zqr ho) 4 (by omega)
 have hba := zav (ext := ext) h h' h2 h3 h4 T hb k o ho o.l.ok
 rw [zax] at hba
 rw [show decide (o.k = 6) = false by simp; omega] at hba
 simp only [mayMem] at hba
 have cSt : (o.s = .empty) = True := eq_true cS
 have cFt : (o.fn = 0) = True := eq_true cF
 have cRt : ((o.l.xs.length : Int) ≤ o.room) = False := eq_false cR
 by_cases hh : heldOf T o.l.xs false = true
 case neg =>
  have hhf : heldOf T o.l.xs false = false := by simpa using hh
  rw [hhf] at hba
  exact ⟨false, by simp -implicitDefEqProofs [x652, k3, k4, k5, k6, g0, g1, g2, g3, g4, hlen, hba, cSt, cFt, cRt], by simp [hhf]⟩
 rw [hh] at hba
 by_cases cZ : o.room = 0
 case neg =>
  have cZt : (o.room = 0) = False := eq_false cZ
  exact ⟨false, by simp -implicitDefEqProofs [x652, k3, k4, k5, k6, g0, g1, g2, g3, g4, hlen, hba, cSt, cFt, cRt, cZt], by simp [cS, cF, cR, cZ]⟩
 have cZt : (o.room = 0) = True := eq_true cZ
 by_cases cN1 : (o.l.xs.length : Int) = 1
 case neg =>
  have cN1t : ((o.l.xs.length : Int) = 1) = False := eq_false cN1
  exact ⟨false, by simp -implicitDefEqProofs [x652, k3, k4, k5, k6, g0, g1, g2, g3, g4, hlen, hba, cSt, cFt, cRt, cZt, cN1t], by simp [cS, cF, cR, cZ, cN1]⟩
 have cN1t : ((o.l.xs.length : Int) = 1) = True := eq_true cN1
 exact ⟨true, by simp -implicitDefEqProofs [x652, k3, k4, k5, k6, g0, g1, g2, g3, g4, hlen, hba, cSt, cFt, cRt, cZt, cN1t], by simp [cS, cF, cR, cZ, cN1, hh]⟩
theorem may7_3 (h : code 651 = some x651) (h' : code 656 = some x656) (h2 : code 653 = some x653) (h3 : code 759 = some x759) (h4 : code 749 = some x749) (h5 : code 650 = some x650) (h6 : code 652 = some x652) (T : List Obj) (hb : T.length ≤ 1048576) (k : Nat) (o : Obj) (ho : T[k]? = some o) (k3 : ¬ o.k = 3) (k4 : ¬ o.k = 4) (k5 : ¬ o.k = 5) (k6 : ¬ o.k = 6) (cS : o.s = .empty) (cF : o.fn = 0) (cR : (o.l.xs.length : Int) ≤ o.room) (cQ : ¬ o.room ≤ 262144) : ∃ b : Bool, callW code ext 652 [.osl 0 0 5 T.length (some (T.length + 1)), .optr 0 (k * 5)] [.flat (storeRow T) false] = some (avb b, [.flat (storeRow T) false]) ∧ (b = true ↔ ObjOk T o) := by
 rw [zbr code ext h6]
 have hlen := zms o.l.ok
 have hok : ObjOk T o ↔ (o.s = .empty ∧ o.room = 0 ∧ o.fn = 0 ∧ (o.l.xs.length : Int) = 1 ∧ heldOf T o.l.xs false = true) := by
  unfold ObjOk
  rw [if_neg k3, if_neg k4, if_neg k5, if_neg k6]
 rw [hok]
 clear hok
 have g0 : (storeRow T)[k * 5]? = some (.val (.int .u8 o.k)) := zcy (zqr ho) 0 (by omega)
 have g1 : (storeRow T)[k * 5 + 1]? = some (.val (.string o.s)) := zcy (zqr ho) 1 (by omega)
 have g2 : (storeRow T)[k * 5 + 2]? = some (o.l.iv) := zcy (zqr ho) 2 (by omega)
 have g3 : (storeRow T)[k * 5 + 3]? = some (.val (.int .i64 o.room)) := zcy (zqr ho) 3 (by omega)
 have g4 : (storeRow T)[k * 5 + 4]? = some (.val (.int .i64 o.fn)) := zcy (zqr ho) 4 (by omega)
 have hba := zav (ext := ext) h h' h2 h3 h4 T hb k o ho o.l.ok
 rw [zax] at hba
 rw [show decide (o.k = 6) = false by simp; omega] at hba
 simp only [mayMem] at hba
 have cSt : (o.s = .empty) = True := eq_true cS
 have cFt : (o.fn = 0) = True := eq_true cF
 have cRt : ((o.l.xs.length : Int) ≤ o.room) = True := eq_true cR
 have cQt : (o.room ≤ 262144) = False := eq_false cQ
 by_cases hh : heldOf T o.l.xs false = true
 case neg =>
  have hhf : heldOf T o.l.xs false = false := by simpa using hh
  rw [hhf] at hba
  exact ⟨false, by simp -implicitDefEqProofs [x652, k3, k4, k5, k6, g0, g1, g2, g3, g4, hlen, hba, cSt, cFt, cRt, cQt], by simp [hhf]⟩
 rw [hh] at hba
 by_cases cZ : o.room = 0
 case neg =>
  have cZt : (o.room = 0) = False := eq_false cZ
  exact ⟨false, by simp -implicitDefEqProofs [x652, k3, k4, k5, k6, g0, g1, g2, g3, g4, hlen, hba, cSt, cFt, cRt, cQt, cZt], by simp [cS, cF, cR, cQ, cZ]⟩
 have cZt : (o.room = 0) = True := eq_true cZ
 by_cases cN1 : (o.l.xs.length : Int) = 1
 case neg =>
  have cN1t : ((o.l.xs.length : Int) = 1) = False := eq_false cN1
  exact ⟨false, by simp -implicitDefEqProofs [x652, k3, k4, k5, k6, g0, g1, g2, g3, g4, hlen, hba, cSt, cFt, cRt, cQt, cZt, cN1t], by simp [cS, cF, cR, cQ, cZ, cN1]⟩
 have cN1t : ((o.l.xs.length : Int) = 1) = True := eq_true cN1
 exact ⟨true, by simp -implicitDefEqProofs [x652, k3, k4, k5, k6, g0, g1, g2, g3, g4, hlen, hba, cSt, cFt, cRt, cQt, cZt, cN1t], by simp [cS, cF, cR, cQ, cZ, cN1, hh]⟩
theorem may7_4 (h : code 651 = some x651) (h' : code 656 = some x656) (h2 : code 653 = some x653) (h3 : code 759 = some x759) (h4 : code 749 = some x749) (h5 : code 650 = some x650) (h6 : code 652 = some x652) (T : List Obj) (hb : T.length ≤ 1048576) (k : Nat) (o : Obj) (ho : T[k]? = some o) (k3 : ¬ o.k = 3) (k4 : ¬ o.k = 4) (k5 : ¬ o.k = 5) (k6 : ¬ o.k = 6) (cS : o.s = .empty) (cF : o.fn = 0) (cR : (o.l.xs.length : Int) ≤ o.room) (cQ : o.room ≤ 262144) : ∃ b : Bool, callW code ext 652 [.osl 0 0 5 T.length (some (T.length + 1)), .optr 0 (k * 5)] [.flat (storeRow T) false] = some (avb b, [.flat (storeRow T) false]) ∧ (b = true ↔ ObjOk T o) := by
 rw [zbr code ext h6]
 have hlen := zms o.l.ok
 have hok : ObjOk T o ↔ (o.s = .empty ∧ o.room = 0 ∧ o.fn = 0 ∧ (o.l.xs.length : Int) = 1 ∧ heldOf T o.l.xs false = true) := by
  unfold ObjOk
  rw [if_neg k3, if_neg k4, if_neg k5, if_neg k6]
 rw [hok]
 clear hok
 have g0 : (storeRow T)[k * 5]? = some (.val (.int .u8 o.k)) := zcy (zqr ho) 0 (by omega)
 have g1 : (storeRow T)[k * 5 + 1]? = some (.val (.string o.s)) := zcy (zqr ho) 1 (by omega)
 have g2 : (storeRow T)[k * 5 + 2]? = some (o.l.iv) := zcy (zqr ho) 2 (by omega)
 have g3 : (storeRow T)[k * 5 + 3]? = some (.val (.int .i64 o.room)) := zcy (zqr ho) 3 (by omega)
 have g4 : (storeRow T)[k * 5 + 4]? = some (.val (.int .i64 o.fn)) := zcy (zqr ho) 4 (by omega)
 have hba := zav (ext := ext) h h' h2 h3 h4 T hb k o ho o.l.ok
 rw [zax] at hba
 rw [show decide (o.k = 6) = false by simp; omega] at hba
 simp only [mayMem] at hba
 have cSt : (o.s = .empty) = True := eq_true cS
 have cFt : (o.fn = 0) = True := eq_true cF
 have cRt : ((o.l.xs.length : Int) ≤ o.room) = True := eq_true cR
 have cQt : (o.room ≤ 262144) = True := eq_true cQ
 by_cases hh : heldOf T o.l.xs false = true
 case neg =>
  have hhf : heldOf T o.l.xs false = false := by simpa using hh
  rw [hhf] at hba
  exact ⟨false, by simp -implicitDefEqProofs [x652, k3, k4, k5, k6, g0, g1, g2, g3, g4, hlen, hba, cSt, cFt, cRt, cQt], by simp [hhf]⟩
 rw [hh] at hba
 by_cases cZ : o.room = 0
 case neg =>
  have cZt : (o.room = 0) = False := eq_false cZ
  exact ⟨false, by simp -implicitDefEqProofs [x652, k3, k4, k5, k6, g0, g1, g2, g3, g4, hlen, hba, cSt, cFt, cRt, cQt, cZt], by simp [cS, cF, cR, cQ, cZ]⟩
 have cZt : (o.room = 0) = True := eq_true cZ
 by_cases cN1 : (o.l.xs.length : Int) = 1
 case neg =>
  have cN1t : ((o.l.xs.length : Int) = 1) = False := eq_false cN1
  exact ⟨false, by simp -implicitDefEqProofs [x652, k3, k4, k5, k6, g0, g1, g2, g3, g4, hlen, hba, cSt, cFt, cRt, cQt, cZt, cN1t], by simp [cS, cF, cR, cQ, cZ, cN1]⟩
 have cN1t : ((o.l.xs.length : Int) = 1) = True := eq_true cN1
 exact ⟨true, by simp -implicitDefEqProofs [x652, k3, k4, k5, k6, g0, g1, g2, g3, g4, hlen, hba, cSt, cFt, cRt, cQt, cZt, cN1t], by simp [cS, cF, cR, cQ, cZ, cN1, hh]⟩
theorem may7 (h : code 651 = some x651) (h' : code 656 = some x656) (h2 : code 653 = some x653) (h3 : code 759 = some x759) (h4 : code 749 = some x749) (h5 : code 650 = some x650) (h6 : code 652 = some x652) (T : List Obj) (hb : T.length ≤ 1048576) (k : Nat) (o : Obj) (ho : T[k]? = some o) (k3 : ¬ o.k = 3) (k4 : ¬ o.k = 4) (k5 : ¬ o.k = 5) (k6 : ¬ o.k = 6) : ∃ b : Bool, callW code ext 652 [.osl 0 0 5 T.length (some (T.length + 1)), .optr 0 (k * 5)] [.flat (storeRow T) false] = some (avb b, [.flat (storeRow T) false]) ∧ (b = true ↔ ObjOk T o) := by
 by_cases cS : o.s = .empty
 case neg => exact may7_0 h h' h2 h3 h4 h5 h6 T hb k o ho k3 k4 k5 k6 cS
 by_cases cF : o.fn = 0
 case neg => exact may7_1 h h' h2 h3 h4 h5 h6 T hb k o ho k3 k4 k5 k6 cS cF
 by_cases cR : (o.l.xs.length : Int) ≤ o.room
 case neg => exact may7_2 h h' h2 h3 h4 h5 h6 T hb k o ho k3 k4 k5 k6 cS cF cR
 by_cases cQ : o.room ≤ 262144
 case neg => exact may7_3 h h' h2 h3 h4 h5 h6 T hb k o ho k3 k4 k5 k6 cS cF cR cQ
 exact may7_4 h h' h2 h3 h4 h5 h6 T hb k o ho k3 k4 k5 k6 cS cF cR cQ
end
end Go.EX


set_option linter.unusedVariables false
set_option linter.unusedSimpArgs false
namespace Go.EX
section
variable {code : Nat → Option XFun} {ext : Calls'}
theorem zi1 (h : code 651 = some x651) (h' : code 656 = some x656) (h2 : code 653 = some x653) (h3 : code 759 = some x759) (h4 : code 749 = some x749) (h5 : code 650 = some x650) (h6 : code 652 = some x652) (T : List Obj) (hb : T.length ≤ 1048576) (k : Nat) (o : Obj) (ho : T[k]? = some o) : ∃ b : Bool, callW code ext 652 [.osl 0 0 5 T.length (some (T.length + 1)), .optr 0 (k * 5)] [.flat (storeRow T) false] = some (avb b, [.flat (storeRow T) false]) ∧ (b = true ↔ ObjOk T o) := by
 by_cases k3 : o.k = 3
 ·exact may3 h h' h2 h3 h4 h5 h6 T hb k o ho k3
 by_cases k4 : o.k = 4
 ·exact may4 h h' h2 h3 h4 h5 h6 T hb k o ho k4
 by_cases k5 : o.k = 5
 ·exact may5 h h' h2 h3 h4 h5 h6 T hb k o ho k5
 by_cases k6 : o.k = 6
 ·exact may6 h h' h2 h3 h4 h5 h6 T hb k o ho k6
 exact may7 h h' h2 h3 h4 h5 h6 T hb k o ho k3 k4 k5 k6
end
end Go.EX

set_option linter.unusedVariables false
set_option linter.unusedSimpArgs false
namespace Go.EX
section
variable {code : Nat → Option XFun} {ext : Calls'}
theorem zjo (h : code 651 = some x651) (h' : code 656 = some x656) (h2 : code 653 = some x653) (h3 : code 759 = some x759) (h4 : code 749 = some x749) (h5 : code 650 = some x650) (h6 : code 652 = some x652) (h7 : code 647 = some x647) (T : List Obj) (hb : T.length ≤ 1048576) (k : Nat) (o : Obj) (ho : T[k]? = some o) :
  ∃ b : Bool, callW code ext 647 [.optr 0 (k * 5), .optr 1 0] [.flat (storeRow T) false, .rich [.osl 0 0 5 T.length (some (T.length + 1))]] = some (avb b, [.flat (storeRow T) false, .rich [.osl 0 0 5 T.length (some (T.length + 1))]]) ∧ (b = true ↔ ¬ ObjOk T o) := by
 obtain ⟨b, hm, hbo⟩ := zi1 (ext := ext) h h' h2 h3 h4 h5 h6 T hb k o ho
 refine ⟨!b, ?_, by rw [← hbo]; simp⟩
 rw [zbr code ext h7]
 simp -implicitDefEqProofs [x647, hm]
theorem zmk (T : List Obj) (out : List Nat) (x : List AV) : ∀ (n : Nat), reach [.rich (ptrs 2 out), .rich x, .flat (storeRow T) false] 999999999998 (List.replicate n 2 ++ [2]) [0, 1] = [0, 1, 2]
 | 0 => by simp -implicitDefEqProofs [reach]
 | n + 1 => by
  rw [List.replicate_succ, List.cons_append, reach]
  simp -implicitDefEqProofs
  refine zmm _ _ _ _ fun y hy => ?_
  rcases List.mem_append.1 hy with h | h
  ·rw [List.eq_of_mem_replicate h]; simp
  ·rw [List.mem_singleton.1 h]; simp
def anyMem (T : List Obj) (out : List Nat) : Mem := [.rich (ptrs 2 out), .rich [.osl 2 0 5 T.length (some (T.length + 1))], .flat (storeRow T) false]
theorem zaw (h : code 651 = some x651) (h' : code 656 = some x656) (h2 : code 653 = some x653) (h3 : code 759 = some x759) (h4 : code 749 = some x749) (h5 : code 650 = some x650) (h6 : code 652 = some x652) (h7 : code 647 = some x647) (h8 : code 745 = some x745) (h9 : code 755 = some x755) (T : List Obj) (hb : T.length ≤ 1048576) (out : List Nat) (hol : out.length ≤ T.length) (hlt : ∀ q ∈ out, q < T.length) :
  ∃ b : Bool, callW code ext 745 [.osl 0 0 1 out.length none, .clo 647 [.optr 1 0]] (anyMem T out) = some (avb b, anyMem T out) ∧ (b = true ↔ ∃ (k : Nat) (o : Obj), k ∈ out ∧ T[k]? = some o ∧ ¬ ObjOk T o) := by
 have loop : ∃ e s', den code ext (.loop [0, 1, 7, 8] x755L1) ⟨3, [(0, .osl 0 0 1 out.length none), (1, .clo 647 [.optr 1 0]), (7, int64 out.length), (8, int64 0)], anyMem T out⟩ = some (e, s') ∧ e ≠ .normal ∧
   ((e = .exit 0 ∧ (∀ (i k : Nat) (o : Obj), out[i]? = some k → T[k]? = some o → ObjOk T o) ∧ s' = ⟨3, [(0, .osl 0 0 1 out.length none), (1, .clo 647 [.optr 1 0]), (7, int64 out.length), (8, int64 out.length), (9, avb false)], anyMem T out⟩) ∨ (e = .ret ∧ (∃ (k : Nat) (o : Obj), k ∈ out ∧ T[k]? = some o ∧ ¬ ObjOk T o) ∧ ∃ i : Nat, s' = ⟨3, [(4, int64 (i : Nat))], anyMem T out⟩)) := by
  refine zir (fun n s => ∃ (i : Nat), i + n = out.length ∧ (∀ (j k : Nat) (o : Obj), j < i → out[j]? = some k → T[k]? = some o → ObjOk T o) ∧ s = ⟨3, [(0, .osl 0 0 1 out.length none), (1, .clo 647 [.optr 1 0]), (7, int64 out.length), (8, int64 (i : Nat))], anyMem T out⟩) _ ?_ out.length _ ⟨0, by simp, fun j k o hj => by omega, rfl⟩
  rintro n _ ⟨i, hi, hall, rfl⟩
  by_cases hio : i < out.length
  ·have hk := List.getElem?_eq_getElem hio
   have hkm := List.getElem_mem hio
   have hkT := hlt _ hkm
   have e1 : IntKind.wrap .i64 ((i : Int) + 1) = (i : Int) + 1 := wrapI64 (by omega) (by omega)
   generalize out[i] = k at hk hkm hkT
   have hTk := List.getElem?_eq_getElem hkT
   generalize T[k] = o at hTk
   have hp : (ptrs 2 out)[i]? = some (.optr 2 (k * 5)) := by simp [ptrs, hk]
   obtain ⟨b, hm, hbo⟩ := zjo (ext := ext) h h' h2 h3 h4 h5 h6 h7 T hb k o hTk
   cases b with
   | true =>
    refine ⟨.ret, ⟨3, [(4, int64 (i : Nat))], anyMem T out⟩, ?_, .inr ⟨by simp, .inr ⟨rfl, ⟨k, o, hkm, hTk, hbo.1 rfl⟩, i, rfl⟩⟩⟩
    simp -implicitDefEqProofs [x755L1, anyMem, hio, hp, hm]
   | false =>
    refine ⟨.normal, ⟨3, [(0, .osl 0 0 1 out.length none), (1, .clo 647 [.optr 1 0]), (7, int64 out.length), (8, int64 ((i : Int) + 1))], anyMem T out⟩, ?_, .inl ⟨rfl, n - 1, by omega, i + 1, by omega, ?_, rfl⟩⟩
    ·simp -implicitDefEqProofs [x755L1, anyMem, hio, hp, hm, e1]
    ·intro j k' o' hj h1 h2
     by_cases hji : j < i
     ·exact hall j k' o' hji h1 h2
     ·have : j = i := by omega
      subst this
      rw [hk] at h1; cases h1
      rw [hTk] at h2; cases h2
      exact Classical.byContradiction fun hc => by have := hbo.2 hc; cases this
  ·have : i = out.length := by omega
   subst this
   refine ⟨.exit 0, _, ?_, .inr ⟨by simp, .inl ⟨rfl, fun i k o h1 h2 => hall i k o (List.getElem?_eq_some_iff.1 h1).1 h1 h2, rfl⟩⟩⟩
   simp -implicitDefEqProofs [x755L1, anyMem]
 have hidx : ∃ r : Int, callW code ext 755 [.osl 0 0 1 out.length none, .clo 647 [.optr 1 0]] (anyMem T out) = some (int64 r, anyMem T out) ∧ ((0 ≤ r) ↔ ∃ (k : Nat) (o : Obj), k ∈ out ∧ T[k]? = some o ∧ ¬ ObjOk T o) := by
  obtain ⟨e, s', g1, _, ⟨rfl, ha, rfl⟩ | ⟨rfl, ha, i, rfl⟩⟩ := loop
  ·refine ⟨-1, ?_, ⟨fun h => by omega, ?_⟩⟩
   ·rw [zbr code ext h9]
    simp only [anyMem] at g1 ⊢
    simp -implicitDefEqProofs [x755, g1]
   ·rintro ⟨k, o, hk, ho, hn⟩
    obtain ⟨i, hi⟩ := List.getElem?_of_mem hk
    exact absurd (ha i k o hi ho) hn
  ·refine ⟨i, ?_, ⟨fun _ => ha, fun _ => by omega⟩⟩
   rw [zbr code ext h9]
   simp only [anyMem] at g1 ⊢
   simp -implicitDefEqProofs [x755, g1]
 obtain ⟨r, hr, hri⟩ := hidx
 rw [zbr code ext h8]
 refine ⟨decide (0 ≤ r), ?_, by rw [decide_eq_true_eq, hri]⟩
 have hra := zmk T out
 simp only [anyMem] at hr ⊢
 simp -implicitDefEqProofs [x745, hr, hra]
end
end Go.EX


set_option linter.unusedVariables false
set_option linter.unusedSimpArgs false
namespace Go.EX
section
variable {code : Nat → Option XFun} {ext : Calls'}
theorem zje (h8 : code 745 = some x745) (h9 : code 755 = some x755) (T : List Obj) :
  callW code ext 745 [nilS, .clo 647 [.optr 0 0]] [.rich [.osl 1 0 5 T.length (some (T.length + 1))], .flat (storeRow T) false] = some (avb false, [.rich [.osl 1 0 5 T.length (some (T.length + 1))], .flat (storeRow T) false]) := by
 have hl : den code ext (.loop [0, 1, 7, 8] x755L1) ⟨2, [(0, nilS), (1, .clo 647 [.optr 0 0]), (7, int64 0), (8, int64 0)], [.rich [.osl 1 0 5 T.length (some (T.length + 1))], .flat (storeRow T) false]⟩ = some (.exit 0, ⟨2, [(0, nilS), (1, .clo 647 [.optr 0 0]), (7, int64 0), (8, int64 0), (9, avb false)], [.rich [.osl 1 0 5 T.length (some (T.length + 1))], .flat (storeRow T) false]⟩) := by
  rw [zda]
  simp -implicitDefEqProofs [x755L1]
 have h5 : callW code ext 755 [nilS, .clo 647 [.optr 0 0]] [.rich [.osl 1 0 5 T.length (some (T.length + 1))], .flat (storeRow T) false] = some (int64 (-1), [.rich [.osl 1 0 5 T.length (some (T.length + 1))], .flat (storeRow T) false]) := by
  rw [zbr code ext h9]
  simp -implicitDefEqProofs [x755, hl]
 rw [zbr code ext h8]
 simp -implicitDefEqProofs [x745, h5]
theorem zml (T : List Obj) (out : List Nat) (x y : List AV) (z : List IV) : ∀ (n : Nat), reach [.flat (storeRow T) false, .rich x, .rich y, .flat z false, .rich (ptrs 0 out)] 999999999998 (List.replicate n 0 ++ [0]) [4, 1] = [4, 1, 0]
 | 0 => by simp -implicitDefEqProofs [reach]
 | n + 1 => by
  rw [List.replicate_succ, List.cons_append, reach]
  simp -implicitDefEqProofs
  refine zmm _ _ _ _ fun y hy => ?_
  rcases List.mem_append.1 hy with h | h
  ·rw [List.eq_of_mem_replicate h]; simp
  ·rw [List.mem_singleton.1 h]; simp
theorem zb5 (h : code 651 = some x651) (h' : code 656 = some x656) (h2 : code 653 = some x653) (h3 : code 759 = some x759) (h4 : code 749 = some x749) (h5 : code 650 = some x650) (h6 : code 652 = some x652) (h7 : code 647 = some x647) (h8 : code 745 = some x745) (h9 : code 755 = some x755) (h10 : code 654 = some x654) (h11 : code 655 = some x655) (h12 : code 646 = some x646)
  (T : List Obj) (hb : T.length ≤ 1048576) (v : Val) (hw : tVal.wf v) :
  ∃ b : Bool, callW code ext 646 [.osl 0 0 5 T.length (some (T.length + 1)), .agg [.imm (.val (.int .u8 v.k)), int64 v.n]] [.flat (storeRow T) false] = some (avb b, [.flat (storeRow T) false]) ∧ (b = true ↔ CheckOk T v) := by
 have hv := zsk (ext := ext) h h' T hb v hw.2
 rw [zbr code ext h12]
 cases hvv : valOf T v with
 | false =>
  rw [hvv] at hv
  exact ⟨false, by simp -implicitDefEqProofs [x646, hv], by simp [CheckOk, hvv]⟩
 | true =>
  rw [hvv] at hv
  obtain ⟨out, hG, hre⟩ := zmi (ext := ext) h h11 h10 T hb v hw
  have hmem : ∀ k, k ∈ out ↔ Reach T [v] k := hG.done (Nat.le_refl _)
  by_cases hne : out = []
  ·subst hne
   simp only [reachOut1, if_true] at hre
   have hna := zje (ext := ext) h8 h9 T
   refine ⟨true, by simp -implicitDefEqProofs [x646, hv, hre, hna], ?_⟩
   simp only [CheckOk, hvv, true_and, true_iff]
   intro k o hk
   have := (hmem k).2 hk
   cases this
  ·simp only [reachOut1, if_neg hne] at hre
   obtain ⟨b, hany, hbo⟩ := zaw (ext := ext) h h' h2 h3 h4 h5 h6 h7 h8 h9 T hb out hG.short (fun q hq => ((hmem q).1 hq).lt)
   refine ⟨!b, ?_, ?_⟩
   ·simp only [anyMem] at hany
    have hra := zml T out
    simp -implicitDefEqProofs [x646, hv, hre, hany, hra]
   ·simp only [CheckOk, hvv, true_and]
    cases b with
    | true =>
     obtain ⟨k, o, hk, ho, hn⟩ := hbo.1 rfl
     simp only [Bool.not_true, Bool.false_eq_true, false_iff]
     exact fun hc => hn (hc k o ((hmem k).1 hk) ho)
    | false =>
     simp only [Bool.not_false, true_iff]
     intro k o hk ho
     exact Classical.byContradiction fun hc => by
      have := hbo.2 ⟨k, o, (hmem k).2 hk, ho, hc⟩
      cases this
end
end Go.EX


set_option linter.unusedVariables false
set_option linter.unusedSimpArgs false
namespace Go.EX
section
variable {code : Nat → Option XFun} {ext : Calls'}
def handM (T : List Obj) (k n : Int) : Mem := [.flat [.val (.int .u8 k), .val (.int .i64 n)] false, .rich [.osl 2 0 5 T.length (some (T.length + 1))], .flat (storeRow T) false]
theorem zgj (h : code 641 = some x641) {T : List Obj} {v : Val} {b : Bool} (hc : callW code ext 646 [.osl 0 0 5 T.length (some (T.length + 1)), .agg [.imm (.val (.int .u8 v.k)), int64 v.n]] [.flat (storeRow T) false] = some (avb b, [.flat (storeRow T) false])) :
  callW code ext 641 [.agg [.imm (.val (.int .u8 v.k)), int64 v.n], .optr 0 0] [.rich [.osl 1 0 5 T.length (some (T.length + 1))], .flat (storeRow T) false] = some (avb (!b), [.rich [.osl 1 0 5 T.length (some (T.length + 1))], .flat (storeRow T) false]) := by
 rw [zbr code ext h]
 generalize storeRow T = R at *
 simp -implicitDefEqProofs [x641, hc]
theorem zgi (h : code 759 = some x759) (h1 : code 641 = some x641) {T : List Obj} {v : Val} {b : Bool} (hc : callW code ext 646 [.osl 0 0 5 T.length (some (T.length + 1)), .agg [.imm (.val (.int .u8 v.k)), int64 v.n]] [.flat (storeRow T) false] = some (avb b, [.flat (storeRow T) false])) :
  callW code ext 759 [.osl 0 0 2 1 (some 1), .clo 641 [.optr 1 0]] (handM T v.k v.n) = some (int64 (if b then -1 else 0), handM T v.k v.n) := by
 have ho := zgj (ext := ext) h1 hc
 have e10 : IntKind.wrap .i64 1 = 1 := rfl
 have loop : ∃ e s', den code ext (.loop [0, 1, 7, 8] x759L1) ⟨3, [(0, .osl 0 0 2 1 (some 1)), (1, .clo 641 [.optr 1 0]), (7, int64 1), (8, int64 0)], handM T v.k v.n⟩ = some (e, s') ∧ e ≠ .normal ∧
   ((b = true ∧ e = .exit 0 ∧ ∃ x, s' = ⟨3, x, handM T v.k v.n⟩) ∨ (b = false ∧ e = .ret ∧ s' = ⟨3, [(4, int64 0)], handM T v.k v.n⟩)) := by
  unfold handM
  generalize storeRow T = R at *
  refine zir (fun q s => (q = 1 ∧ s = ⟨3, [(0, .osl 0 0 2 1 (some 1)), (1, .clo 641 [.optr 1 0]), (7, int64 1), (8, int64 0)], [.flat [.val (.int .u8 v.k), .val (.int .i64 v.n)] false, .rich [.osl 2 0 5 T.length (some (T.length + 1))], .flat R false]⟩) ∨
   (q = 0 ∧ b = true ∧ s = ⟨3, [(0, .osl 0 0 2 1 (some 1)), (1, .clo 641 [.optr 1 0]), (7, int64 1), (8, int64 1)], [.flat [.val (.int .u8 v.k), .val (.int .i64 v.n)] false, .rich [.osl 2 0 5 T.length (some (T.length + 1))], .flat R false]⟩)) _ ?_ 1 _ (.inl ⟨rfl, rfl⟩)
  rintro q s (⟨rfl, rfl⟩ | ⟨rfl, hb, rfl⟩)
  ·cases b with
   | false =>
    refine ⟨.ret, ⟨3, [(4, int64 0)], [.flat [.val (.int .u8 v.k), .val (.int .i64 v.n)] false, .rich [.osl 2 0 5 T.length (some (T.length + 1))], .flat R false]⟩, ?_, .inr ⟨by simp, .inr ⟨rfl, rfl, rfl⟩⟩⟩
    simp only [Bool.not_false] at ho
    simp -implicitDefEqProofs [x759L1, ho]
   | true =>
    refine ⟨.normal, ⟨3, [(0, .osl 0 0 2 1 (some 1)), (1, .clo 641 [.optr 1 0]), (7, int64 1), (8, int64 1)], [.flat [.val (.int .u8 v.k), .val (.int .i64 v.n)] false, .rich [.osl 2 0 5 T.length (some (T.length + 1))], .flat R false]⟩, ?_, .inl ⟨rfl, 0, by omega, .inr ⟨rfl, rfl, rfl⟩⟩⟩
    simp only [Bool.not_true] at ho
    simp -implicitDefEqProofs [x759L1, ho, e10]
  ·refine ⟨.exit 0, ⟨3, [(0, .osl 0 0 2 1 (some 1)), (1, .clo 641 [.optr 1 0]), (7, int64 1), (8, int64 1), (9, avb false)], [.flat [.val (.int .u8 v.k), .val (.int .i64 v.n)] false, .rich [.osl 2 0 5 T.length (some (T.length + 1))], .flat R false]⟩, ?_, .inr ⟨by simp, .inl ⟨hb, rfl, _, rfl⟩⟩⟩
   simp -implicitDefEqProofs [x759L1]
 rw [zbr code ext h]
 unfold x759
 generalize x759L1 = L at *
 unfold handM at *
 generalize storeRow T = R at *
 obtain ⟨e, s', l1, _, ⟨rfl, rfl, x, rfl⟩ | ⟨rfl, rfl, rfl⟩⟩ := loop
 ·simp -implicitDefEqProofs [l1]
 ·simp -implicitDefEqProofs [l1]
theorem zgh (h0 : code 749 = some x749) (h : code 759 = some x759) (h1 : code 641 = some x641) {T : List Obj} {v : Val} {b : Bool} (hc : callW code ext 646 [.osl 0 0 5 T.length (some (T.length + 1)), .agg [.imm (.val (.int .u8 v.k)), int64 v.n]] [.flat (storeRow T) false] = some (avb b, [.flat (storeRow T) false])) :
  callW code ext 749 [.osl 0 0 2 1 (some 1), .clo 641 [.optr 1 0]] (handM T v.k v.n) = some (avb (!b), handM T v.k v.n) := by
 have hi := zgi (ext := ext) h h1 hc
 rw [zbr code ext h0]
 unfold handM at *
 generalize storeRow T = R at *
 cases b
 ·simp only [Bool.false_eq_true, if_false] at hi
  simp -implicitDefEqProofs [x749, hi]
 ·simp only [if_true] at hi
  simp -implicitDefEqProofs [x749, hi]
end
end Go.EX


set_option linter.unusedVariables false
set_option linter.unusedSimpArgs false
namespace Go.EX
section
variable {code : Nat → Option XFun} {ext : Calls'}
theorem zc5 (T : List Obj) : cut (storeRow T) 0 (T.length * 5) = some (tObj.row T) := by
 unfold storeRow
 have hr : tObj.row (T ++ [spObj]) = tObj.row T ++ tObj.row [spObj] := by unfold Ty.row; simp
 have hl : (tObj.row T).length = T.length * 5 := zn6 tObj T
 rw [hr]
 refine cut_mk ?_ hl
 rw [List.drop_zero, ← hl, List.take_left]
theorem zdp (h : code 640 = some x640) (h1 : code 643 = some x643V) (h2 : code 743 = some x743) (h3 : code 741 = some x741) (h4 : code 742 = some x742) (h5 : code 740 = some x740) {T : List Obj} (hT : ∀ o ∈ T, o.l.xs.length ≤ 1000000) (hn : T.length ≤ 100000000) {v : Val} (op : Int)
  (hc : callW code ext 749 [.osl 0 0 2 1 (some 1), .clo 641 [.optr 1 0]] (handM T v.k v.n) = some (avb true, handM T v.k v.n)) :
  callW code ext 640 [.osl 0 0 5 T.length (some (T.length + 1)), .imm (.val (.int .u8 op)), int64 0, .osl 1 0 2 1 (some 1)] [.flat (storeRow T) false, .flat [.val (.int .u8 v.k), .val (.int .i64 v.n)] false] =
   some (.agg [.osl 2 0 5 T.length (some T.length), .imm (.val (.int .u8 0)), int64 0, strV kindT, int64 0], [.flat (storeRow T) false, .flat [.val (.int .u8 v.k), .val (.int .i64 v.n)] false, .flat (tObj.row (T.map cloneObj)) false]) := by
 have ht := zr1 (ext := ext) h1 h2 h3 h4 h5 hT hn false (some (T.length + 1)) (zc5 T)
 rw [zbr code ext h]
 unfold handM at hc
 generalize storeRow T = R at *
 generalize tObj.row (T.map cloneObj) = R1 at *
 simp -implicitDefEqProofs [x640, ht, hc]
theorem zci (T : List Obj) (hT : ∀ o ∈ T, o.l.xs.length ≤ 1000000) : ∀ o ∈ T.map cloneObj, o.l.xs.length ≤ 1000000 := by
 intro o ho
 obtain ⟨q, hq, rfl⟩ := List.mem_map.1 ho
 have : (cloneObj q).l.xs = q.l.xs := by
  unfold cloneObj cloneL
  dsimp only
  split <;> rfl
 rw [this]
 exact hT q hq
set_option maxHeartbeats 2000000 in
theorem zdq (h : code 640 = some x640) (h1 : code 643 = some x643V) (h2 : code 743 = some x743) (h3 : code 741 = some x741) (h4 : code 742 = some x742) (h5 : code 740 = some x740) (h6 : code 642 = some x642) (h7 : code 578 = some x578) (h8 : code 639 = some x639)
  {T : List Obj} (hT : ∀ o ∈ T, o.l.xs.length ≤ 1000000) (hn : T.length ≤ 100000000) {v : Val} (op : Int) {a b : Value} {t : ByteArray} {d : Bool}
  (hc : callW code ext 749 [.osl 0 0 2 1 (some 1), .clo 641 [.optr 1 0]] (handM T v.k v.n) = some (avb false, handM T v.k v.n))
  (hd : callW code ext 206 [.optr 0 0, .agg [.imm (.val (.int .u8 op)), int64 0, .osl 1 0 2 1 (some 1), nilS]] (plainM (tObj.row (T.map cloneObj)) T.length 0 v.k v.n) = some (.agg [.imm (.val a), .imm (.val b), strV t, avb d], plainM (tObj.row (T.map cloneObj)) T.length 0 v.k v.n)) :
  callW code ext 640 [.osl 0 0 5 T.length (some (T.length + 1)), .imm (.val (.int .u8 op)), int64 0, .osl 1 0 2 1 (some 1)] [.flat (storeRow T) false, .flat [.val (.int .u8 v.k), .val (.int .i64 v.n)] false] =
   some (.agg [.osl 2 0 5 T.length (some T.length), .imm (.val a), .imm (.val b), strV t, int64 0], [.flat (storeRow T) false, .flat [.val (.int .u8 v.k), .val (.int .i64 v.n)] false, .flat (tObj.row ((T.map cloneObj).map cloneObj)) false]) := by
 have ht := zr1 (ext := ext) h1 h2 h3 h4 h5 hT hn false (some (T.length + 1)) (zc5 T)
 have hl : (T.map cloneObj).length = T.length := List.length_map ..
 have ht2 := zr1 (ext := ext) (T := T.map cloneObj) h1 h2 h3 h4 h5 (zci T hT) (by rw [hl]; exact hn) false (some T.length) (zc3 tObj _)
 have hs := zqg (ext := ext) (T := T.map cloneObj) h6 h7 (some T.length) (zc3 tObj _) (by rw [hl]; exact hn)
 have ha := zba (ext := ext) (T := T.map cloneObj) (B := []) h8 h7 (some T.length) (by rw [List.append_nil]; exact zc3 tObj _) (by rw [List.append_nil, hl]; exact hn)
 rw [List.append_nil] at ha
 have hz : askSum [] = 0 := rfl
 rw [hz] at ha
 unfold sizeV sizeM at hs
 unfold wasV at ha
 rw [hl] at ht2 hs ha
 have hW : (sizeRow (T.map cloneObj)).all IV.plain = true := by
  rw [List.all_eq_true]
  intro x hx
  unfold sizeRow at hx
  rw [List.mem_map] at hx
  obtain ⟨o, _, rfl⟩ := hx
  rfl
 generalize sizeRow (T.map cloneObj) = W at *
 rw [zbr code ext h]
 unfold handM at hc
 unfold plainM at hd
 generalize storeRow T = R at *
 generalize tObj.row ((T.map cloneObj).map cloneObj) = R2 at *
 generalize tObj.row (T.map cloneObj) = R1 at *
 by_cases h0 : T.length = 0
 ·rw [if_pos h0, if_pos h0] at hs
  rw [if_pos h0] at ha
  simp -implicitDefEqProofs [x640, ht, hc, hd, ht2, hs, ha]
 ·rw [if_neg h0, if_neg h0] at hs
  rw [if_neg h0] at ha
  simp -implicitDefEqProofs [-IV.plain, x640, ht, hc, hd, ht2, hs, ha, hW]
end
end Go.EX

