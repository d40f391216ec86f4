import Derived.Test.YtbomedbbgfcncaaDoorK9
set_option linter.unusedVariables false
set_option linter.unusedSimpArgs false
namespace Go.EX
section
variable {code : Nat → Option XFun} {ext : Calls'}
def addBaseT (sA : AV) (t : TP) (out : List Nat) (o : AV) : Mem := [.rich [sA], .rich [.omap 3], .rich [o], .map (seenT t out)]
abbrev addEnvT (lv : IV) (n i : Int) : Env := [(1, .optr 0 0), (2, .optr 1 0), (3, .optr 2 0), (8, .imm lv), (9, int64 n), (10, int64 i)]
theorem zag {sA : AV} {t : TP} {T : List Obj} (hT : StoreT code ext sA t T) (row : List IV) (off : Nat) (cap : Option Nat) (l : List Val) (hl : Reads tVal (.slice row off l.length cap) l) (out : List Nat) (i : Nat) (v : Val) (hv : l[i]? = some v)
  (hold : leadsOf T v = none ∨ ∃ k, leadsOf T v = some k ∧ k ∈ out) (k : Nat) (o : AV) (tail : Mem) (hk : (k = 4 ∧ ((out = [] ∧ o = nilS ∧ tail = []) ∨ (o = .osl 4 0 1 out.length none ∧ tail = [.rich (ptrsT t out)]))) ∨ (k = 5 ∧ ((o = .osl 4 0 1 out.length none ∧ tail = [.rich (ptrsT t out)]) ∨ (o = .osl 5 0 1 out.length none ∧ tail = [.dead, .rich (ptrsT t out)])))) :
  ∃ s', den code ext x655L1 ⟨k, addEnvT (.slice row off l.length cap) l.length i, addBaseT sA t out o ++ tail⟩ = some (.normal, s') ∧ s'.tidy [1, 2, 3, 8, 9, 10] = ⟨k, addEnvT (.slice row off l.length cap) l.length ((i : Int) + 1), addBaseT sA t out o ++ tail⟩ := by
 have hlt := (List.getElem?_eq_some_iff.1 hv).1
 obtain ⟨row', off', cap', he, hc, hcut, hget⟩ := zi5 hl hv
 cases he
 simp only [tVal] at hget
 have hb2 := hl.2.1
 have hw := (hl.1 v (List.mem_of_getElem? hv)).2
 have e1 : IntKind.wrap .i64 ((i : Int) + 1) = (i : Int) + 1 := wrapI64 (by omega) (by omega)
 have hld := hT.lead v hw
 have hsr := hT.refs
 have hsn := hT.ren
 rcases hold with hn | ⟨q, hq, hm⟩
 ·rw [hn, leadT] at hld
  rcases hk with ⟨rfl, ⟨rfl, rfl, rfl⟩ | ⟨rfl, rfl⟩⟩ | ⟨rfl, ⟨rfl, rfl⟩ | ⟨rfl, rfl⟩⟩
  ·refine ⟨⟨4, addEnvT (.slice row off l.length cap) l.length ((i : Int) + 1), addBaseT sA t [] nilS ++ [.rich [.imm (.val (.int .u8 v.k)), int64 v.n]]⟩, ?_, ?_⟩
   ·simp -implicitDefEqProofs [x655L1, addBaseT, TP.at, hsr, hsn, hlt, hget, hld, e1]
   ·simp -implicitDefEqProofs [addBaseT, TP.at, hsr, hsn]
  ·refine ⟨⟨4, addEnvT (.slice row off l.length cap) l.length ((i : Int) + 1), addBaseT sA t out (.osl 4 0 1 out.length none) ++ [.rich (ptrsT t out), .rich [.imm (.val (.int .u8 v.k)), int64 v.n]]⟩, ?_, ?_⟩
   ·simp -implicitDefEqProofs [x655L1, addBaseT, TP.at, hsr, hsn, hlt, hget, hld, e1]
   ·simp -implicitDefEqProofs [addBaseT, TP.at, hsr, hsn]
  ·refine ⟨⟨5, addEnvT (.slice row off l.length cap) l.length ((i : Int) + 1), addBaseT sA t out (.osl 4 0 1 out.length none) ++ [.rich (ptrsT t out), .rich [.imm (.val (.int .u8 v.k)), int64 v.n]]⟩, ?_, ?_⟩
   ·simp -implicitDefEqProofs [x655L1, addBaseT, TP.at, hsr, hsn, hlt, hget, hld, e1]
   ·simp -implicitDefEqProofs [addBaseT, TP.at, hsr, hsn]
  ·refine ⟨⟨5, addEnvT (.slice row off l.length cap) l.length ((i : Int) + 1), addBaseT sA t out (.osl 5 0 1 out.length none) ++ [.dead, .rich (ptrsT t out), .rich [.imm (.val (.int .u8 v.k)), int64 v.n]]⟩, ?_, ?_⟩
   ·simp -implicitDefEqProofs [x655L1, addBaseT, TP.at, hsr, hsn, hlt, hget, hld, e1]
   ·simp -implicitDefEqProofs [addBaseT, TP.at, hsr, hsn]
 ·rw [hq, leadT] at hld
  rcases zd5 t q out 0 with ⟨h1, _⟩ | ⟨_, j, hf, hj⟩
  ·exact absurd hm h1
  simp only [Nat.zero_add] at hf
  simp only [TP.at] at hld hf hj
  rcases hk with ⟨rfl, ⟨rfl, rfl, rfl⟩ | ⟨rfl, rfl⟩⟩ | ⟨rfl, ⟨rfl, rfl⟩ | ⟨rfl, rfl⟩⟩
  ·cases hm
  ·refine ⟨⟨4, addEnvT (.slice row off l.length cap) l.length ((i : Int) + 1), addBaseT sA t out (.osl 4 0 1 out.length none) ++ [.rich (ptrsT t out), .rich [.imm (.val (.int .u8 v.k)), int64 v.n]]⟩, ?_, ?_⟩
   ·simp -implicitDefEqProofs [x655L1, addBaseT, TP.at, hsr, hsn, hlt, hget, hld, e1, hf, hj]
   ·simp -implicitDefEqProofs [addBaseT, TP.at, hsr, hsn]
  ·refine ⟨⟨5, addEnvT (.slice row off l.length cap) l.length ((i : Int) + 1), addBaseT sA t out (.osl 4 0 1 out.length none) ++ [.rich (ptrsT t out), .rich [.imm (.val (.int .u8 v.k)), int64 v.n]]⟩, ?_, ?_⟩
   ·simp -implicitDefEqProofs [x655L1, addBaseT, TP.at, hsr, hsn, hlt, hget, hld, e1, hf, hj]
   ·simp -implicitDefEqProofs [addBaseT, TP.at, hsr, hsn]
  ·refine ⟨⟨5, addEnvT (.slice row off l.length cap) l.length ((i : Int) + 1), addBaseT sA t out (.osl 5 0 1 out.length none) ++ [.dead, .rich (ptrsT t out), .rich [.imm (.val (.int .u8 v.k)), int64 v.n]]⟩, ?_, ?_⟩
   ·simp -implicitDefEqProofs [x655L1, addBaseT, TP.at, hsr, hsn, hlt, hget, hld, e1, hf, hj]
   ·simp -implicitDefEqProofs [addBaseT, TP.at, hsr, hsn]
theorem zaf {sA : AV} {t : TP} {T : List Obj} (hT : StoreT code ext sA t T) (row : List IV) (off : Nat) (cap : Option Nat) (l : List Val) (hl : Reads tVal (.slice row off l.length cap) l) (out : List Nat) (hbo : out.length ≤ 1048576) (i : Nat) (v : Val) (hv : l[i]? = some v)
  (q : Nat) (hq : leadsOf T v = some q) (hm : q ∉ out) (k : Nat) (o : AV) (tail : Mem) (hk : (k = 4 ∧ ((out = [] ∧ o = nilS ∧ tail = []) ∨ (o = .osl 4 0 1 out.length none ∧ tail = [.rich (ptrsT t out)]))) ∨ (k = 5 ∧ ((o = .osl 4 0 1 out.length none ∧ tail = [.rich (ptrsT t out)]) ∨ (o = .osl 5 0 1 out.length none ∧ tail = [.dead, .rich (ptrsT t out)])))) :
  ∃ s', den code ext x655L1 ⟨k, addEnvT (.slice row off l.length cap) l.length i, addBaseT sA t out o ++ tail⟩ = some (.normal, s') ∧
   s'.tidy [1, 2, 3, 8, 9, 10] = ⟨k, addEnvT (.slice row off l.length cap) l.length ((i : Int) + 1), addBaseT sA t (out ++ [q]) (.osl k 0 1 (out.length + 1) none) ++ (if k = 4 then [] else [.dead]) ++ [.rich (ptrsT t (out ++ [q]))]⟩ := by
 have hlt := (List.getElem?_eq_some_iff.1 hv).1
 obtain ⟨row', off', cap', he, hc, hcut, hget⟩ := zi5 hl hv
 cases he
 simp only [tVal] at hget
 have hb2 := hl.2.1
 have hw := (hl.1 v (List.mem_of_getElem? hv)).2
 have e1 : IntKind.wrap .i64 ((i : Int) + 1) = (i : Int) + 1 := wrapI64 (by omega) (by omega)
 have hld := hT.lead v hw
 have hsr := hT.refs
 have hsn := hT.ren
 rw [hq, leadT] at hld
 rcases zd5 t q out 0 with ⟨_, hf⟩ | ⟨h1, _⟩
 case inr => exact absurd h1 hm
 have hcp := zb1 t out
 have hs1 := zk0 t q out
 have hs2 := zik t q out
 have hbd : (out.length + 1) * 8 ≤ 140737488355328 := by omega
 have h0 : seenT t [] = [] := rfl
 have h0' : [(t.at q, avb true)] = seenT t [q] := rfl
 have h0'' : [t.at q] = ptrsT t [q] := rfl
 have hf0 : ∀ (m : Mem) (x : AV), findK m 3 x [] 0 = some none := fun _ _ => rfl
 simp only [TP.at] at hld hf hs1 hs2 h0' h0''
 rcases hk with ⟨rfl, ⟨rfl, rfl, rfl⟩ | ⟨rfl, rfl⟩⟩ | ⟨rfl, ⟨rfl, rfl⟩ | ⟨rfl, rfl⟩⟩
 ·refine ⟨⟨4, addEnvT (.slice row off l.length cap) l.length ((i : Int) + 1), addBaseT sA t [q] (.osl 6 0 1 1 none) ++ [.rich [.imm (.val (.int .u8 v.k)), int64 v.n], .rich [t.at q], .rich [t.at q]]⟩, ?_, ?_⟩
  ·simp -implicitDefEqProofs [x655L1, addBaseT, TP.at, hsr, hsn, hlt, hget, hld, e1, h0, hf0, exAppendX, exAppend, exAppendR, elems, elemsR, h0']
  ·simp -implicitDefEqProofs [addBaseT, TP.at, hsr, hsn, ptrsT]
 ·refine ⟨⟨4, addEnvT (.slice row off l.length cap) l.length ((i : Int) + 1), addBaseT sA t (out ++ [q]) (.osl 7 0 1 (out.length + 1) none) ++ [.dead, .rich [.imm (.val (.int .u8 v.k)), int64 v.n], .rich [t.at q], .rich (ptrsT t (out ++ [q]))]⟩, ?_, ?_⟩
  ·simp -implicitDefEqProofs [x655L1, addBaseT, TP.at, hsr, hsn, hlt, hget, hld, e1, hf, hs1, hs2, hcp, hbd, exAppendX, exAppend, exAppendR, elems, elemsR]
  ·simp -implicitDefEqProofs [addBaseT, TP.at, hsr, hsn]
 ·refine ⟨⟨5, addEnvT (.slice row off l.length cap) l.length ((i : Int) + 1), addBaseT sA t (out ++ [q]) (.osl 7 0 1 (out.length + 1) none) ++ [.dead, .rich [.imm (.val (.int .u8 v.k)), int64 v.n], .rich [t.at q], .rich (ptrsT t (out ++ [q]))]⟩, ?_, ?_⟩
  ·simp -implicitDefEqProofs [x655L1, addBaseT, TP.at, hsr, hsn, hlt, hget, hld, e1, hf, hs1, hs2, hcp, hbd, exAppendX, exAppend, exAppendR, elems, elemsR]
  ·simp -implicitDefEqProofs [addBaseT, TP.at, hsr, hsn]
 ·refine ⟨⟨5, addEnvT (.slice row off l.length cap) l.length ((i : Int) + 1), addBaseT sA t (out ++ [q]) (.osl 8 0 1 (out.length + 1) none) ++ [.dead, .dead, .rich [.imm (.val (.int .u8 v.k)), int64 v.n], .rich [t.at q], .rich (ptrsT t (out ++ [q]))]⟩, ?_, ?_⟩
  ·simp -implicitDefEqProofs [x655L1, addBaseT, TP.at, hsr, hsn, hlt, hget, hld, e1, hf, hs1, hs2, hcp, hbd, exAppendX, exAppend, exAppendR, elems, elemsR]
  ·simp -implicitDefEqProofs [addBaseT, TP.at, hsr, hsn]
end
end Go.EX


set_option linter.unusedVariables false
set_option linter.unusedSimpArgs false
namespace Go.EX
section
variable {code : Nat → Option XFun} {ext : Calls'}
def AddShapeT (t : TP) (k : Nat) (out : List Nat) (o : AV) (tail : Mem) : Prop :=
 (k = 4 ∧ ((out = [] ∧ o = nilS ∧ tail = []) ∨ (o = .osl 4 0 1 out.length none ∧ tail = [.rich (ptrsT t out)]))) ∨ (k = 5 ∧ ((o = .osl 4 0 1 out.length none ∧ tail = [.rich (ptrsT t out)]) ∨ (o = .osl 5 0 1 out.length none ∧ tail = [.dead, .rich (ptrsT t out)])))
theorem zlc (n : Nat) (out : List Nat) (h : out.Nodup) (hl : ∀ k ∈ out, k < n) : out.length ≤ n := by
 have hp : out.Perm ((List.range n).filter fun k => decide (k ∈ out)) := (List.perm_ext_iff_of_nodup h (List.nodup_range.filter _)).2 fun k => by
  rw [List.mem_filter, List.mem_range]
  exact ⟨fun hk => ⟨hl k hk, by simpa using hk⟩, fun hk => by simpa using hk.2⟩
 rw [hp.length_eq]
 exact Nat.le_trans (List.length_filter_le _ _) (by simp)
theorem zae {sA : AV} {t : TP} {T : List Obj} (hT : StoreT code ext sA t T) (hb : T.length ≤ 1048576) (lv : IV) (l : List Val) (hl : Reads tVal lv l) (k : Nat) (out : List Nat) (o : AV) (tail : Mem) (hsh : AddShapeT t k out o tail) (hnd : out.Nodup) (hlt : ∀ q ∈ out, q < T.length) {s : St}
  (hst : s.tidy [1, 2, 3, 8, 9, 10] = ⟨k, addEnvT lv l.length 0, addBaseT sA t out o ++ tail⟩) :
  ∃ e s', den code ext (.loop [1, 2, 3, 8, 9, 10] x655L1) s = some (e, s') ∧ e ≠ .normal ∧
   (e = .exit 0 ∧ ∃ o' tail', AddShapeT t k (addAll T out l) o' tail' ∧ (addAll T out l = out → o' = o ∧ tail' = tail) ∧ (addAll T out l ≠ out → o' = .osl k 0 1 (addAll T out l).length none) ∧
    s' = ⟨k, addEnvT lv l.length l.length ++ [(11, avb false)], addBaseT sA t (addAll T out l) o' ++ tail'⟩) := by
 refine zgg (fun n s => ∃ (i : Nat) (out1 : List Nat) (o1 : AV) (tail1 : Mem), i + n = l.length ∧ addAll T out l = addAll T out1 (l.drop i) ∧ AddShapeT t k out1 o1 tail1 ∧ out1.Nodup ∧ (∀ q ∈ out1, q < T.length) ∧
  (∃ r, out1 = out ++ r ∧ (r = [] → o1 = o ∧ tail1 = tail) ∧ (r ≠ [] → o1 = .osl k 0 1 out1.length none)) ∧ s.tidy [1, 2, 3, 8, 9, 10] = ⟨k, addEnvT lv l.length i, addBaseT sA t out1 o1 ++ tail1⟩) _ ?_ l.length _ ⟨0, out, o, tail, by simp, by simp, hsh, hnd, hlt, ⟨[], by simp, fun _ => ⟨rfl, rfl⟩, fun h => absurd rfl h⟩, hst⟩
 clear hst hsh hnd hlt s
 rintro n s ⟨i, out1, o1, tail1, hi, ha, hsh, hnd, hlt, ⟨r, hr, hr1, hr2⟩, hst⟩
 rw [hst]
 by_cases hil : i < l.length
 ·have hv := List.getElem?_eq_getElem hil
  rw [List.drop_eq_getElem_cons hil, addAll] at ha
  obtain ⟨row, off, cap, rfl, _, _, _⟩ := zi5 hl hv
  generalize l[i] = v at hv ha
  cases hq : leadsOf T v with
  | none =>
   rw [hq] at ha
   obtain ⟨s', g1, g2⟩ := zag (code := code) (ext := ext) hT row off cap l hl out1 i v hv (.inl hq) k o1 tail1 hsh
   exact ⟨.normal, s', g1, .inl ⟨rfl, n - 1, by omega, i + 1, out1, o1, tail1, by omega, ha, hsh, hnd, hlt, ⟨r, hr, hr1, hr2⟩, by rw [g2]; rfl⟩⟩
  | some q =>
   rw [hq] at ha
   by_cases hm : q ∈ out1
   ·dsimp only at ha
    rw [if_pos hm] at ha
    obtain ⟨s', g1, g2⟩ := zag (code := code) (ext := ext) hT row off cap l hl out1 i v hv (.inr ⟨q, hq, hm⟩) k o1 tail1 hsh
    exact ⟨.normal, s', g1, .inl ⟨rfl, n - 1, by omega, i + 1, out1, o1, tail1, by omega, ha, hsh, hnd, hlt, ⟨r, hr, hr1, hr2⟩, by rw [g2]; rfl⟩⟩
   ·dsimp only at ha
    rw [if_neg hm] at ha
    have hlen := zlc T.length out1 hnd hlt
    obtain ⟨s', g1, g2⟩ := zaf (code := code) (ext := ext) hT row off cap l hl out1 (by omega) i v hv q hq hm k o1 tail1 hsh
    refine ⟨.normal, s', g1, .inl ⟨rfl, n - 1, by omega, i + 1, out1 ++ [q], .osl k 0 1 (out1.length + 1) none, (if k = 4 then [] else [.dead]) ++ [.rich (ptrsT t (out1 ++ [q]))], by omega, ha, ?_, ?_, ?_, ⟨r ++ [q], by rw [hr]; simp, fun h => by simp at h, fun _ => by simp⟩, by rw [g2, List.append_assoc]; rfl⟩⟩
    ·rcases hsh with ⟨rfl, _⟩ | ⟨rfl, _⟩
     ·exact .inl ⟨rfl, .inr ⟨by simp, by simp⟩⟩
     ·exact .inr ⟨rfl, .inr ⟨by simp, by simp⟩⟩
    ·rw [List.nodup_append]
     exact ⟨hnd, by simp, fun a ha' b hb' => by simp at hb'; subst hb'; exact fun e => hm (e ▸ ha')⟩
    ·intro p hp
     rw [List.mem_append, List.mem_singleton] at hp
     rcases hp with hp | rfl
     ·exact hlt p hp
     ·exact (zf3 hq).1
 ·have : i = l.length := by omega
  subst this
  rw [List.drop_eq_nil_of_le (Nat.le_refl _), addAll] at ha
  refine ⟨.exit 0, ⟨k, addEnvT lv l.length l.length ++ [(11, avb false)], addBaseT sA t (addAll T out l) o1 ++ tail1⟩, ?_, .inr ⟨by simp, rfl, o1, tail1, by rw [ha]; exact hsh, fun he => hr1 ?_, fun he => ?_, rfl⟩⟩
  ·rw [ha]
   simp -implicitDefEqProofs [x655L1]
  ·rw [ha, hr] at he
   simpa using he
  ·rw [ha]
   refine hr2 fun e => he ?_
   rw [ha, hr, e]; simp
theorem zah {sA : AV} {t : TP} {T : List Obj} (hT : StoreT code ext sA t T) (h' : code 655 = some x655) (hb : T.length ≤ 1048576) (lv : IV) (l : List Val) (hl : Reads tVal lv l) (k : Nat) (out : List Nat) (o : AV) (tail : Mem) (hsh : AddShapeT t k out o tail) (hk : (addBaseT sA t out o ++ tail).length = k) (hnd : out.Nodup) (hlt : ∀ q ∈ out, q < T.length) :
  ∃ o' tail', AddShapeT t k (addAll T out l) o' tail' ∧ (addAll T out l = out → o' = o ∧ tail' = tail) ∧ (addAll T out l ≠ out → o' = .osl k 0 1 (addAll T out l).length none) ∧
   callW code ext 655 [.imm lv, .optr 0 0, .optr 1 0, .optr 2 0] (addBaseT sA t out o ++ tail) = some (.tup [], addBaseT sA t (addAll T out l) o' ++ tail') := by
 have hlen := zi3 hl
 have hsr := hT.refs
 have hsn := hT.ren
 obtain ⟨e, s', h1, _, rfl, o', tail', g1, g2, g3, rfl⟩ := zae (code := code) (ext := ext) hT hb lv l hl k out o tail hsh hnd hlt (s := ⟨k, addEnvT lv l.length 0, addBaseT sA t out o ++ tail⟩) (by
  rcases hsh with ⟨rfl, ⟨rfl, rfl, rfl⟩ | ⟨rfl, rfl⟩⟩ | ⟨rfl, ⟨rfl, rfl⟩ | ⟨rfl, rfl⟩⟩ <;> simp -implicitDefEqProofs [addBaseT, hsr, hsn])
 refine ⟨o', tail', g1, g2, g3, ?_⟩
 rw [za7 code ext h', hk]
 generalize hM : addBaseT sA t out o ++ tail = M at h1 ⊢
 generalize hout : addAll T out l = out' at *
 clear hsh g2 g3 hk hM
 rcases g1 with ⟨rfl, ⟨rfl, rfl, rfl⟩ | ⟨rfl, rfl⟩⟩ | ⟨rfl, ⟨rfl, rfl⟩ | ⟨rfl, rfl⟩⟩
 ·simp -implicitDefEqProofs [x655, hlen, h1, addBaseT, hsr, hsn]
 ·simp -implicitDefEqProofs [x655, hlen, h1, addBaseT, hsr, hsn]
 ·simp -implicitDefEqProofs [x655, hlen, h1, addBaseT, hsr, hsn]
 ·simp -implicitDefEqProofs [x655, hlen, h1, addBaseT, hsr, hsn]
end
end Go.EX


set_option linter.unusedVariables false
set_option linter.unusedSimpArgs false
namespace Go.EX
theorem zbe (n : Nat) : AV.cells (.omap n) = some [.omap n] := rfl
theorem zbf (i o z l : Nat) (c : Option Nat) : AV.cells (.osl i o z l c) = some [.osl i o z l c] := rfl
theorem zbd (x : IV) : AV.cells (.imm x) = some [.imm x] := rfl
section
variable {code : Nat → Option XFun} {ext : Calls'}
abbrev reachEnvT (i : Int) : Env := [(4, .optr 0 0), (6, .clo 655 [.optr 1 0, .optr 2 0, .optr 0 0]), (7, int64 i)]
def reachMemT (sA : AV) (t : TP) (out : List Nat) : Mem := [.rich [.osl 3 0 1 out.length none], .rich [sA], .rich [.omap 4], .rich (ptrsT t out), .map (seenT t out)]
theorem zix {sA : AV} {t : TP} {T : List Obj} (hT : StoreT code ext sA t T) (h' : code 655 = some x655) (hb : T.length ≤ 1048576) (out : List Nat) (hnd : out.Nodup) (hlt : ∀ q ∈ out, q < T.length) (i k : Nat) (hk : out[i]? = some k) (o : Obj) (ho : T[k]? = some o) :
  ∃ s', den code ext x654L1 ⟨0, reachEnvT i, reachMemT sA t out⟩ = some (.normal, s') ∧ s'.tidy [4, 6, 7] = ⟨0, reachEnvT ((i : Int) + 1), reachMemT sA t (addAll T out o.l.xs)⟩ := by
 have hi := (List.getElem?_eq_some_iff.1 hk).1
 have hlen := zlc T.length out hnd hlt
 have e1 : IntKind.wrap .i64 ((i : Int) + 1) = (i : Int) + 1 := wrapI64 (by omega) (by omega)
 have hp : (ptrsT t out)[i]? = some (t.at k) := by simp [ptrsT, hk]
 have hL : t.row[t.off + k * 5 + 2]? = some o.l.iv := zby (hT.obj k o ho) 2 (by omega)
 have hsr := hT.refs
 have hsn := hT.ren
 obtain ⟨o', tail', g1, g2, g3, g4⟩ := zah (ext := ext) hT h' hb o.l.iv o.l.xs o.l.ok 5 out (.osl 4 0 1 out.length none) [.rich (ptrsT t out)] (.inr ⟨rfl, .inl ⟨rfl, rfl⟩⟩) rfl hnd hlt
 simp only [addBaseT, List.cons_append, List.nil_append] at g4
 by_cases he : addAll T out o.l.xs = out
 ·obtain ⟨rfl, rfl⟩ := g2 he
  rw [he] at g4 ⊢
  refine ⟨⟨0, reachEnvT ((i : Int) + 1), reachMemT sA t out⟩, ?_, ?_⟩
  ·simp -implicitDefEqProofs [x654L1, reachMemT, TP.at, hsr, hsn, hi, hp, hL, g4, e1]
  ·simp -implicitDefEqProofs [reachMemT, hsr, hsn]
 ·have ho' := g3 he
  subst ho'
  generalize addAll T out o.l.xs = out' at *
  obtain rfl : tail' = [.dead, .rich (ptrsT t out')] := by
   rcases g1 with ⟨h5, _⟩ | ⟨_, ⟨h6, _⟩ | ⟨_, h7⟩⟩
   ·cases h5
   ·cases h6
   ·exact h7
  refine ⟨⟨0, reachEnvT ((i : Int) + 1), [.rich [.osl 5 0 1 out'.length none], .rich [sA], .rich [.omap 4], .dead, .map (seenT t out'), .rich (ptrsT t out')]⟩, ?_, ?_⟩
  ·simp -implicitDefEqProofs [x654L1, reachMemT, TP.at, hsr, hsn, hi, hp, hL, g4, e1]
  ·simp -implicitDefEqProofs [reachMemT, hsr, hsn]
def reachOutT (t : TP) (out : List Nat) : AV × Mem := if out = [] then (nilS, []) else (.osl 0 0 1 out.length none, [.rich (ptrsT t out)])
theorem ziw {sA : AV} {t : TP} {T : List Obj} (hT : StoreT code ext sA t T) (h' : code 655 = some x655) (h2 : code 654 = some x654) (hb : T.length ≤ 1048576) {rv : IV} {roots : List Val} (hr : Reads tVal rv roots) :
  ∃ out, Grown T roots out out.length ∧ callW code ext 654 [sA, .imm rv] [] = some (reachOutT t out) := by
 obtain ⟨o', tail', g1, g2, g3, g4⟩ := zah (ext := ext) hT h' hb rv roots hr 4 [] nilS [] (.inl ⟨rfl, .inl ⟨rfl, rfl, rfl⟩⟩) rfl (by simp) (by simp)
 have hsr := hT.refs
 have hsn := hT.ren
 have hs0 : seenT t [] = [] := rfl
 have hG := Grown.start T roots
 simp only [addBaseT, List.cons_append, List.nil_append, List.append_nil, hs0] at g4
 rw [za7 code ext h2]
 by_cases he : addAll T [] roots = []
 ·rw [he] at g4 hG g1
  refine ⟨[], hG, ?_⟩
  rcases g1 with ⟨_, ⟨_, rfl, rfl⟩ | ⟨rfl, rfl⟩⟩ | ⟨h6, _⟩
  ·have hl : den code ext (.loop [4, 6, 7] x654L1) ⟨0, [(4, .optr 1 0), (6, .clo 655 [.optr 0 0, .optr 3 0, .optr 1 0]), (7, int64 0)], [.rich [sA], .rich [nilS], .map [], .rich [.omap 2]]⟩ =
     some (.exit 0, ⟨0, [(4, .optr 0 0), (6, .clo 655 [.optr 1 0, .optr 2 0, .optr 0 0]), (7, int64 0), (16, avb false)], [.rich [nilS], .rich [sA], .rich [.omap 3], .map []]⟩) := by
    rw [zb8]
    simp -implicitDefEqProofs [x654L1, hsr, hsn]
   simp -implicitDefEqProofs [x654, hsr, hsn, hT.box, -AV.cells, zbe, zbf, zbd, g4, hs0, hl, reachOutT]
  ·have hn := (g2 he).1
   cases hn
  ·cases h6
 ·have ho' := g3 he
  subst ho'
  generalize hout : addAll T [] roots = out0 at *
  obtain rfl : tail' = [.rich (ptrsT t out0)] := by
   rcases g1 with ⟨_, ⟨h5, _⟩ | ⟨_, h5⟩⟩ | ⟨h6, _⟩
   ·exact absurd h5 he
   ·exact h5
   ·cases h6
  have loop : ∀ s : St, s.tidy [4, 6, 7] = ⟨0, reachEnvT 0, reachMemT sA t out0⟩ → ∃ e s', den code ext (.loop [4, 6, 7] x654L1) s = some (e, s') ∧ e ≠ .normal ∧
    (e = .exit 0 ∧ ∃ out, out ≠ [] ∧ Grown T roots out out.length ∧ s' = ⟨0, reachEnvT out.length ++ [(16, avb false)], reachMemT sA t out⟩) := by
   intro s hst
   refine zgg (fun n s => ∃ (i : Nat) (out : List Nat), i ≤ out.length ∧ out ≠ [] ∧ n + i = T.length ∧ Grown T roots out i ∧ s.tidy [4, 6, 7] = ⟨0, reachEnvT i, reachMemT sA t out⟩) _ ?_ T.length s ⟨0, out0, by omega, he, by omega, hG, hst⟩
   clear hst hG hout he g1 g2 g3 g4
   rintro n s ⟨i, out, hio, hne, hn, hG, hst⟩
   rw [hst]
   have hlt : ∀ q ∈ out, q < T.length := fun q hq => (hG.reach q hq).lt
   by_cases hi : i < out.length
   ·have hk := List.getElem?_eq_getElem hi
    have hko := hlt _ (List.getElem_mem hi)
    obtain ⟨s', q1, q2⟩ := zix (code := code) (ext := ext) hT h' hb out hG.nodup hlt i _ hk _ (List.getElem?_eq_getElem hko)
    have hG' := hG.next hk (List.getElem?_eq_getElem hko)
    have hs := hG.short
    obtain ⟨r, hr⟩ := zad T T[out[i]].l.xs out
    refine ⟨.normal, s', q1, .inl ⟨rfl, n - 1, by omega, i + 1, _, ?_, ?_, by omega, hG', by rw [q2]; rfl⟩⟩
    ·rw [hr, List.length_append]; omega
    ·rw [hr]; intro e; exact hne (List.append_eq_nil_iff.1 e).1
   ·have : i = out.length := by omega
    subst this
    refine ⟨.exit 0, ⟨0, reachEnvT out.length ++ [(16, avb false)], reachMemT sA t out⟩, ?_, .inr ⟨by simp, rfl, out, hne, hG, rfl⟩⟩
    simp -implicitDefEqProofs [x654L1, reachMemT, hsr, hsn]
  obtain ⟨e, s', l1, _, rfl, out, hne, hG', rfl⟩ := loop ⟨0, [(4, .optr 1 0), (6, .clo 655 [.optr 0 0, .optr 3 0, .optr 1 0]), (7, int64 0)], [.rich [sA], .rich [.osl 4 0 1 out0.length none], .map (seenT t out0), .rich [.omap 2], .rich (ptrsT t out0)]⟩ (by simp -implicitDefEqProofs [reachMemT, hsr, hsn])
  refine ⟨out, hG', ?_⟩
  simp -implicitDefEqProofs [x654, hsr, hsn, hT.box, -AV.cells, zbe, zbf, zbd, g4, l1, reachMemT, reachOutT, hne]
end
end Go.EX


set_option linter.unusedVariables false
set_option linter.unusedSimpArgs false
namespace Go.EX
section
variable {code : Nat → Option XFun} {ext : Calls'}
theorem tdiv8T (n : Nat) : ((n : Int) + 7).tdiv 8 = (((n + 7) / 8 : Nat) : Int) := by
 have := Int.ofNat_tdiv (n + 7) 8
 simpa using this.symm
theorem zmz {sA : AV} {t : TP} {T : List Obj} (hT : StoreT code ext sA t T) (h : code 657 = some x657) (k : Nat) (o : Obj) (ho : T[k]? = some o) (hroom : o.room ≤ 1099511627776) (hs : o.s.size ≤ 1048576) (hL : o.l.xs.length ≤ 5000) :
  callW code ext 657 [t.at k] [] = some (int64 (wordsOf o : Nat), []) := by
 rw [za7 code ext h]
 have hget := hT.obj k o ho
 have g0 : t.row[t.off + k * 5]? = some (.val (.int .u8 o.k)) := zby hget 0 (by omega)
 have g1 : t.row[t.off + k * 5 + 1]? = some (.val (.string o.s)) := zby hget 1 (by omega)
 have g2 : t.row[t.off + k * 5 + 2]? = some o.l.iv := zby hget 2 (by omega)
 have g3 : t.row[t.off + k * 5 + 3]? = some (.val (.int .i64 o.room)) := zby hget 3 (by omega)
 by_cases c3 : o.k = 3
 ·have hw : wordsOf o = 2 + (o.s.size + 7) / 8 := by simp [wordsOf, c3]
  have w2 : IntKind.wrap .i64 ((o.s.size : Int) + 7) = (o.s.size : Int) + 7 := wrapI64 (by omega) (by omega)
  have w3 : IntKind.wrap .i64 ((((o.s.size + 7) / 8 : Nat) : Int)) = (((o.s.size + 7) / 8 : Nat) : Int) := wrapI64 (by omega) (by omega)
  have w4 : IntKind.wrap .i64 (2 + (((o.s.size + 7) / 8 : Nat) : Int)) = 2 + (((o.s.size + 7) / 8 : Nat) : Int) := wrapI64 (by omega) (by omega)
  have hd := tdiv8T o.s.size
  generalize hqq : (o.s.size + 7) / 8 = q at *
  rw [hw]
  simp -implicitDefEqProofs [x657, TP.at, g0, g1, c3, w2, w3, w4, hd]
 by_cases c45 : o.k = 4 ∨ o.k = 5
 ·by_cases c0 : 0 < o.room
  ·have hw : wordsOf o = 4 + 2 * o.room.toNat := by simp [wordsOf, c3, c45, c0]
   obtain ⟨r, hr⟩ : ∃ r : Nat, o.room = r := ⟨o.room.toNat, by omega⟩
   have hr2 : o.room.toNat = r := by omega
   have w3 : IntKind.wrap .i64 (2 * (r : Int)) = 2 * r := wrapI64 (by omega) (by omega)
   have w4 : IntKind.wrap .i64 (4 + 2 * (r : Int)) = 4 + 2 * r := wrapI64 (by omega) (by omega)
   have hr0 : 0 < r := by omega
   rw [hw, hr2]
   rw [hr] at g3
   rcases c45 with c4 | c5
   ·simp -implicitDefEqProofs [x657, TP.at, g0, g3, c4, w3, w4, hr0]
   ·simp -implicitDefEqProofs [x657, TP.at, g0, g3, c5, w3, w4, hr0]
  ·have hw : wordsOf o = 3 := by simp [wordsOf, c3, c45, c0]
   rw [hw]
   rcases c45 with c4 | c5
   ·simp -implicitDefEqProofs [x657, TP.at, g0, g3, c4, c0]
   ·simp -implicitDefEqProofs [x657, TP.at, g0, g3, c5, c0]
 ·have c4 : ¬ o.k = 4 := fun e => c45 (.inl e)
  have c5 : ¬ o.k = 5 := fun e => c45 (.inr e)
  by_cases c6 : o.k = 6
  ·have hw : wordsOf o = 2 + 2 * o.l.xs.length := by simp [wordsOf, c6]
   have hll := zi3 o.l.ok
   have w2 : IntKind.wrap .i64 (2 * (o.l.xs.length : Int)) = 2 * (o.l.xs.length : Int) := wrapI64 (by omega) (by omega)
   have w3 : IntKind.wrap .i64 (2 + 2 * (o.l.xs.length : Int)) = 2 + 2 * (o.l.xs.length : Int) := wrapI64 (by omega) (by omega)
   rw [hw]
   simp -implicitDefEqProofs [x657, TP.at, g0, g2, c6, w2, w3, hll]
  ·have hw : wordsOf o = 3 := by simp [wordsOf, c3, c4, c5, c6]
   rw [hw]
   simp -implicitDefEqProofs [x657, TP.at, g0, c3, c4, c5, c6]
theorem zmy (o : Obj) (hroom : o.room ≤ 1099511627776) (hs : o.s.size ≤ 1048576) (hL : o.l.xs.length ≤ 5000) : wordsOf o ≤ 3000000000000 := by
 unfold wordsOf; split; omega; split; split <;> omega; split <;> omega
theorem zlf {sA : AV} {t : TP} {T : List Obj} (hT : StoreT code ext sA t T) (h' : code 655 = some x655) (h2 : code 654 = some x654) (h3 : code 657 = some x657) (h4 : code 649 = some x649) (hb : T.length ≤ 1048576) {rv : IV} {roots : List Val} (hr : Reads tVal rv roots)
  (hroom : ∀ o ∈ T, o.room ≤ 1099511627776) (hs : ∀ o ∈ T, o.s.size ≤ 1048576) (hL : ∀ o ∈ T, o.l.xs.length ≤ 5000) :
  ∃ out, Grown T roots out out.length ∧ callW code ext 649 [sA, .imm rv] [] = some (int64 ((out.map (wordsAt T)).sum : Nat), []) := by
 obtain ⟨out, hG, hre⟩ := ziw (ext := ext) hT h' h2 hb hr
 refine ⟨out, hG, ?_⟩
 rw [za7 code ext h4]
 have hsh := hG.short
 have hsr := hT.refs
 have hsn := hT.ren
 by_cases hne : out = []
 ·subst hne
  simp only [reachOutT, if_true] at hre
  have hl : den code ext (.loop [4, 9, 10, 11] x649L1) ⟨0, [(4, int64 0), (9, nilS), (10, int64 0), (11, int64 0)], []⟩ = some (.exit 0, ⟨0, [(4, int64 0), (9, nilS), (10, int64 0), (11, int64 0), (12, avb false)], []⟩) := by
   rw [zb8]
   simp -implicitDefEqProofs [x649L1]
  simp -implicitDefEqProofs [x649, hsr, hsn, hre, hl]
 ·simp only [reachOutT, if_neg hne] at hre
  have loop : ∃ e s', den code ext (.loop [4, 9, 10, 11] x649L1) ⟨0, [(4, int64 0), (9, .osl 0 0 1 out.length none), (10, int64 out.length), (11, int64 0)], [.rich (ptrsT t out)]⟩ = some (e, s') ∧ e ≠ .normal ∧
    (e = .exit 0 ∧ s' = ⟨0, [(4, int64 ((out.map (wordsAt T)).sum : Nat)), (9, .osl 0 0 1 out.length none), (10, int64 out.length), (11, int64 out.length), (12, avb false)], [.rich (ptrsT t out)]⟩) := by
   refine zgg (fun n s => ∃ (i : Nat), i + n = out.length ∧ ((out.take i).map (wordsAt T)).sum ≤ i * 3000000000000 ∧ s = ⟨0, [(4, int64 (((out.take i).map (wordsAt T)).sum : Nat)), (9, .osl 0 0 1 out.length none), (10, int64 out.length), (11, int64 (i : Nat))], [.rich (ptrsT t out)]⟩) _ ?_ out.length _ ⟨0, by simp, by simp, by simp⟩
   rintro n _ ⟨i, hi, hm, rfl⟩
   by_cases hlt : i < out.length
   ·have hk := List.getElem?_eq_getElem hlt
    have hkT := (hG.reach _ (List.getElem_mem hlt)).lt
    have htk : out.take (i + 1) = out.take i ++ [out[i]] := by rw [List.take_add_one, hk]; rfl
    generalize out[i] = k at hk hkT htk
    have hTk := List.getElem?_eq_getElem hkT
    have hmem := List.getElem_mem hkT
    have hp : (ptrsT t out)[i]? = some (t.at k) := by simp [ptrsT, hk]
    have hw := zmz (ext := ext) hT h3 k _ hTk (hroom _ hmem) (hs _ hmem) (hL _ hmem)
    have hwl := zmy _ (hroom _ hmem) (hs _ hmem) (hL _ hmem)
    have hwa : wordsAt T k = wordsOf T[k] := by simp [wordsAt, hTk]
    have hsum : ((out.take (i + 1)).map (wordsAt T)).sum = ((out.take i).map (wordsAt T)).sum + wordsOf T[k] := by rw [htk, List.map_append, List.sum_append]; simp [hwa]
    have e1 : IntKind.wrap .i64 ((i : Int) + 1) = (i : Int) + 1 := wrapI64 (by omega) (by omega)
    have hm2 : ((out.take i).map (wordsAt T)).sum ≤ 3145728000000000000 := Nat.le_trans hm (by omega)
    generalize ((out.take i).map (wordsAt T)).sum = m at *
    generalize wordsOf T[k] = w at *
    have e2 : IntKind.wrap .i64 ((m : Int) + (w : Int)) = (m : Int) + (w : Int) := wrapI64 (by omega) (by omega)
    refine ⟨.normal, ⟨0, [(4, int64 ((m : Int) + (w : Int))), (9, .osl 0 0 1 out.length none), (10, int64 out.length), (11, int64 ((i : Int) + 1))], [.rich (ptrsT t out)]⟩, ?_, .inl ⟨rfl, n - 1, by omega, i + 1, by omega, ?_, ?_⟩⟩
    ·simp -implicitDefEqProofs [x649L1, hlt, hp, hw, e1, e2]
    ·rw [hsum, Nat.add_mul]; exact Nat.add_le_add hm (by rw [Nat.one_mul]; exact hwl)
    ·rw [hsum]; rfl
   ·have : i = out.length := by omega
    subst this
    rw [List.take_length]
    refine ⟨.exit 0, _, ?_, .inr ⟨by simp, rfl, rfl⟩⟩
    simp -implicitDefEqProofs [x649L1]
  obtain ⟨e, s', l1, _, rfl, rfl⟩ := loop
  simp -implicitDefEqProofs [x649, hsr, hsn, hre, l1]
end
end Go.EX


set_option linter.unusedVariables false
set_option linter.unusedSimpArgs false
namespace Go.EX
open Classical
noncomputable def wordsN (S : List Obj) (roots : List Val) : Nat := ((List.range S.length).map fun k => if Reach S roots k then wordsAt S k else 0).sum
theorem zlz (p : Nat → Prop) (f : Nat → Nat) : ∀ l : List Nat, ((l.filter fun k => decide (p k)).map f).sum = (l.map fun k => if p k then f k else 0).sum
 | [] => rfl
 | x :: r => by
  have ih := zlz p f r
  by_cases h : p x
  ·simp [h, ih]
  ·simp [h, ih]
theorem zm2 {S : List Obj} {roots : List Val} {out : List Nat} (hg : Grown S roots out out.length) : (out.map (wordsAt S)).sum = wordsN S roots := by
 unfold wordsN
 rw [← zlz (Reach S roots) (wordsAt S)]
 refine List.Perm.sum_nat (List.Perm.map _ ((List.perm_ext_iff_of_nodup hg.nodup (List.nodup_range.filter _)).2 fun k => ?_))
 rw [hg.done (Nat.le_refl _), List.mem_filter, List.mem_range]
 constructor
 ·intro h; exact ⟨h.lt, by simpa using h⟩
 ·rintro ⟨_, h⟩; simpa using h
theorem zi0 {S : List Obj} {a b : List Val} (h : ∀ v ∈ a, v ∈ b) {k : Nat} (hr : Reach S a k) : Reach S b k := by
 induction hr with
 | root hv hl => exact .root (h _ hv) hl
 | step _ ho hv hl ih => exact .step ih ho hv hl
theorem ziz {S : List Obj} {a b : List Val} {k : Nat} (hr : Reach S (a ++ b) k) : Reach S a k ∨ Reach S b k := by
 induction hr with
 | root hv hl =>
  rcases List.mem_append.1 hv with h | h
  ·exact .inl (.root h hl)
  ·exact .inr (.root h hl)
 | step _ ho hv hl ih =>
  rcases ih with h | h
  ·exact .inl (.step h ho hv hl)
  ·exact .inr (.step h ho hv hl)
theorem zl0 (f g : Nat → Nat) (h : ∀ k, f k ≤ g k) : ∀ l : List Nat, (l.map f).sum ≤ (l.map g).sum
 | [] => Nat.le_refl _
 | x :: r => by
  have := zl0 f g h r
  have := h x
  simp only [List.map_cons, List.sum_cons]
  omega
theorem zl1 (f g e : Nat → Nat) (h : ∀ k, f k ≤ g k + e k) : ∀ l : List Nat, (l.map f).sum ≤ (l.map g).sum + (l.map e).sum
 | [] => by simp
 | x :: r => by
  have := zl1 f g e h r
  have := h x
  simp only [List.map_cons, List.sum_cons]
  omega
theorem zm3 {S : List Obj} {a b : List Val} (h : ∀ v ∈ a, v ∈ b) : wordsN S a ≤ wordsN S b := by
 refine zl0 _ _ (fun k => ?_) _
 by_cases h1 : Reach S a k
 ·rw [if_pos h1, if_pos (zi0 h h1)]; exact Nat.le_refl _
 ·rw [if_neg h1]; exact Nat.zero_le _
theorem zm0 (S : List Obj) (a b : List Val) : wordsN S (a ++ b) ≤ wordsN S a + wordsN S b := by
 refine zl1 _ _ _ (fun k => ?_) _
 by_cases h : Reach S (a ++ b) k
 ·rw [if_pos h]
  rcases ziz h with h1 | h1
  ·rw [if_pos h1]; omega
  ·rw [if_pos h1]; omega
 ·rw [if_neg h]; exact Nat.zero_le _
theorem zm5 (S : List Obj) (a b : List Val) : wordsN S (a ++ b ++ a) = wordsN S (a ++ b) :=
 Nat.le_antisymm (zm3 fun v hv => by
  simp only [List.mem_append] at hv ⊢
  rcases hv with (h | h) | h
  ·exact .inl h
  ·exact .inr h
  ·exact .inl h) (zm3 fun v hv => by
  rw [List.mem_append]
  exact .inl hv)
theorem zm4 (S : List Obj) : wordsN S [] = 0 := by
 have h : ∀ k, ¬ Reach S [] k := by
  intro k hr
  induction hr with
  | root hv _ => cases hv
  | step _ _ _ _ ih => exact ih
 unfold wordsN
 induction List.range S.length with
 | nil => rfl
 | cons x r ih => simp only [List.map_cons, List.sum_cons, ih, if_neg (h x)]
theorem zm1 {S : List Obj} (roots : List Val) (hroom : ∀ o ∈ S, o.room ≤ 1099511627776) (hs : ∀ o ∈ S, o.s.size ≤ 1048576) (hL : ∀ o ∈ S, o.l.xs.length ≤ 5000) (hb : S.length ≤ 1048576) : wordsN S roots ≤ 3145728000000000000 := by
 have key : ∀ l : List Nat, (l.map fun k => if Reach S roots k then wordsAt S k else 0).sum ≤ l.length * 3000000000000 := by
  intro l
  induction l with
  | nil => simp
  | cons x r ih =>
   have hx : (if Reach S roots x then wordsAt S x else 0) ≤ 3000000000000 := by
    split
    ·unfold wordsAt
     cases ho : S[x]? with
     | none => exact Nat.zero_le _
     | some o =>
      have hm := List.mem_of_getElem? ho
      exact zmy o (hroom o hm) (hs o hm) (hL o hm)
    ·exact Nat.zero_le _
   simp only [List.map_cons, List.sum_cons, List.length_cons]
   omega
 have := key (List.range S.length)
 rw [List.length_range] at this
 unfold wordsN
 omega
end Go.EX

