import Derived.Test.YtedddogbgdbpmaaDoorK9
import Derived.Test.YtedddogbgdbpmaaDoorK4
import Derived.Test.YtedddogbgdbpmaaDoorK8
set_option linter.unusedVariables false
set_option linter.unusedSimpArgs false
namespace Go.EX
def leadsOf (S : List Obj) (v : Val) : Option Nat :=
 if v.k < 3 then none else if 7 < v.k then none else if v.n < 1 then none else if (S.length : Int) < v.n then none else
 match S[(v.n - 1).toNat]? with
 | some o => if o.k = v.k then some (v.n - 1).toNat else none
 | none => none
theorem zgt {S : List Obj} {v : Val} {k : Nat} (h : leadsOf S v = some k) : k < S.length ∧ (k : Int) = v.n - 1 ∧ 3 ≤ v.k ∧ v.k ≤ 7 ∧ ∃ o, S[k]? = some o ∧ o.k = v.k := by
 unfold leadsOf at h
 split at h
 ·cases h
 split at h
 ·cases h
 split at h
 ·cases h
 split at h
 ·cases h
 split at h
 ·rename_i o ho
  split at h
  ·rename_i hk
   cases h
   have := (List.getElem?_eq_some_iff.1 ho).1
   exact ⟨this, by omega, by omega, by omega, o, ho, hk⟩
  ·cases h
 ·cases h
inductive Reach (S : List Obj) (roots : List Val) : Nat → Prop
 | root {v : Val} {j : Nat} (hv : v ∈ roots) (h : leadsOf S v = some j) : Reach S roots j
 | step {k j : Nat} {o : Obj} {v : Val} (hk : Reach S roots k) (ho : S[k]? = some o) (hv : v ∈ o.l.xs) (h : leadsOf S v = some j) : Reach S roots j
theorem Reach.lt {S : List Obj} {roots : List Val} {k : Nat} (h : Reach S roots k) : k < S.length := by
 cases h with
 | root _ h => exact (zgt h).1
 | step _ _ _ h => exact (zgt h).1
structure Marks (S : List Obj) (roots : List Val) (F : List Bool) (T : List Val) : Prop where
 len : F.length = S.length
 mark : ∀ k, F[k]? = some true → Reach S roots k
 todo : ∀ v ∈ T, ∀ j, leadsOf S v = some j → Reach S roots j
 roots : ∀ v ∈ roots, ∀ j, leadsOf S v = some j → F[j]? = some true ∨ v ∈ T
 step : ∀ (k : Nat) (o : Obj), F[k]? = some true → S[k]? = some o → ∀ v ∈ o.l.xs, ∀ j : Nat, leadsOf S v = some j → F[j]? = some true ∨ v ∈ T
theorem Marks.start (S : List Obj) (roots : List Val) : Marks S roots (List.replicate S.length false) roots :=
 ⟨by simp, fun k h => by simp [List.getElem?_replicate] at h, fun v hv j h => .root hv h, fun v hv j h => .inr hv, fun k o h => by simp [List.getElem?_replicate] at h⟩
theorem Marks.drop {S : List Obj} {roots : List Val} {F : List Bool} {T : List Val} {v : Val} (h : Marks S roots F (T ++ [v])) (hv : ∀ j, leadsOf S v = some j → F[j]? = some true) : Marks S roots F T := by
 have key : ∀ u j, leadsOf S u = some j → (F[j]? = some true ∨ u ∈ T ++ [v]) → F[j]? = some true ∨ u ∈ T := by
  intro u j hu h1
  rcases h1 with h1 | h1
  ·exact .inl h1
  ·rw [List.mem_append, List.mem_singleton] at h1
   rcases h1 with h1 | rfl
   ·exact .inr h1
   ·exact .inl (hv j hu)
 exact ⟨h.len, h.mark, fun u hu j hj => h.todo u (List.mem_append_left _ hu) j hj, fun u hu j hj => key u j hj (h.roots u hu j hj), fun k o hk ho u hu j hj => key u j hj (h.step k o hk ho u hu j hj)⟩
theorem Marks.take {S : List Obj} {roots : List Val} {F : List Bool} {T : List Val} {v : Val} {k : Nat} {o : Obj} (h : Marks S roots F (T ++ [v])) (hv : leadsOf S v = some k) (hF : F[k]? = some false) (ho : S[k]? = some o) : Marks S roots (F.set k true) (T ++ o.l.xs) := by
 have hkl : k < F.length := (List.getElem?_eq_some_iff.1 hF).1
 have hk := h.todo v (by simp) k hv
 have hset : ∀ j, (F.set k true)[j]? = some true ↔ j = k ∨ F[j]? = some true := by
  intro j
  rw [List.getElem?_set]
  by_cases e : k = j
  ·subst e; simp [hkl]
  ·rw [if_neg e]; simp [Ne.symm e]
 have key : ∀ u j, leadsOf S u = some j → (F[j]? = some true ∨ u ∈ T ++ [v]) → (F.set k true)[j]? = some true ∨ u ∈ T ++ o.l.xs := by
  intro u j hu h1
  rcases h1 with h1 | h1
  ·exact .inl ((hset j).2 (.inr h1))
  ·rw [List.mem_append, List.mem_singleton] at h1
   rcases h1 with h1 | rfl
   ·exact .inr (List.mem_append_left _ h1)
   ·rw [hv] at hu; cases hu; exact .inl ((hset k).2 (.inl rfl))
 refine ⟨by simp [h.len], fun j hj => ?_, fun u hu j hj => ?_, fun u hu j hj => key u j hj (h.roots u hu j hj), fun q p hq hp u hu j hj => ?_⟩
 ·rcases (hset j).1 hj with rfl | hj
  ·exact hk
  ·exact h.mark j hj
 ·rw [List.mem_append] at hu
  rcases hu with hu | hu
  ·exact h.todo u (List.mem_append_left _ hu) j hj
  ·exact .step hk ho hu hj
 ·rcases (hset q).1 hq with rfl | hq
  ·rw [ho] at hp; cases hp
   exact .inr (List.mem_append_right _ hu)
  ·exact key u j hj (h.step q p hq hp u hu j hj)
theorem Marks.done {S : List Obj} {roots : List Val} {F : List Bool} (h : Marks S roots F []) (k : Nat) : F[k]? = some true ↔ Reach S roots k := by
 refine ⟨h.mark k, fun hk => ?_⟩
 induction hk with
 | root hv hl => rcases h.roots _ hv _ hl with h | h; exact h; cases h
 | step _ ho hv hl ih => rcases h.step _ _ ih ho _ hv _ hl with h | h; exact h; cases h
def addAll (S : List Obj) : List Nat → List Val → List Nat
 | out, [] => out
 | out, v :: l => match leadsOf S v with
  | some o => if o ∈ out then addAll S out l else addAll S (out ++ [o]) l
  | none => addAll S out l
theorem zag (S : List Obj) : ∀ (l : List Val) (out : List Nat), ∃ r, addAll S out l = out ++ r
 | [], out => ⟨[], by simp [addAll]⟩
 | v :: l, out => by
  rw [addAll]
  split
  ·rename_i o ho
   split
   ·exact zag S l out
   ·obtain ⟨r, hr⟩ := zag S l (out ++ [o])
    exact ⟨o :: r, by rw [hr]; simp⟩
  ·exact zag S l out
theorem zaf (S : List Obj) : ∀ (l : List Val) (out : List Nat), out.Nodup → (addAll S out l).Nodup
 | [], out, h => h
 | v :: l, out, h => by
  rw [addAll]
  split
  ·rename_i o ho
   split
   ·exact zaf S l out h
   ·rename_i hn
    refine zaf S l _ ?_
    rw [List.nodup_append]
    exact ⟨h, by simp, fun a ha b hb => by simp at hb; subst hb; exact fun e => hn (e ▸ ha)⟩
  ·exact zaf S l out h
theorem zae (S : List Obj) : ∀ (l : List Val) (out : List Nat) (j : Nat), j ∈ addAll S out l ↔ j ∈ out ∨ ∃ v ∈ l, leadsOf S v = some j
 | [], out, j => by simp [addAll]
 | v :: l, out, j => by
  rw [addAll]
  split
  ·rename_i o ho
   split
   ·rename_i hm
    rw [zae S l out j]
    constructor
    ·rintro (h | ⟨u, hu, h⟩)
     ·exact .inl h
     ·exact .inr ⟨u, List.mem_cons_of_mem _ hu, h⟩
    ·rintro (h | ⟨u, hu, h⟩)
     ·exact .inl h
     ·rcases List.mem_cons.1 hu with rfl | hu
      ·rw [ho] at h; cases h; exact .inl hm
      ·exact .inr ⟨u, hu, h⟩
   ·rw [zae S l _ j, List.mem_append, List.mem_singleton]
    constructor
    ·rintro ((h | rfl) | ⟨u, hu, h⟩)
     ·exact .inl h
     ·exact .inr ⟨v, List.mem_cons_self .., ho⟩
     ·exact .inr ⟨u, List.mem_cons_of_mem _ hu, h⟩
    ·rintro (h | ⟨u, hu, h⟩)
     ·exact .inl (.inl h)
     ·rcases List.mem_cons.1 hu with rfl | hu
      ·rw [ho] at h; cases h; exact .inl (.inr rfl)
      ·exact .inr ⟨u, hu, h⟩
  ·rename_i hn
   rw [zae S l out j]
   constructor
   ·rintro (h | ⟨u, hu, h⟩)
    ·exact .inl h
    ·exact .inr ⟨u, List.mem_cons_of_mem _ hu, h⟩
   ·rintro (h | ⟨u, hu, h⟩)
    ·exact .inl h
    ·rcases List.mem_cons.1 hu with rfl | hu
     ·rw [hn] at h; cases h
     ·exact .inr ⟨u, hu, h⟩
structure Grown (S : List Obj) (roots : List Val) (out : List Nat) (i : Nat) : Prop where
 nodup : out.Nodup
 reach : ∀ k ∈ out, Reach S roots k
 roots : ∀ v ∈ roots, ∀ j, leadsOf S v = some j → j ∈ out
 step : ∀ k ∈ out.take i, ∀ o : Obj, S[k]? = some o → ∀ v ∈ o.l.xs, ∀ j, leadsOf S v = some j → j ∈ out
theorem Grown.start (S : List Obj) (roots : List Val) : Grown S roots (addAll S [] roots) 0 :=
 ⟨zaf S roots [] (by simp), fun k hk => by
  rcases (zae S roots [] k).1 hk with h | ⟨v, hv, h⟩
  ·cases h
  ·exact .root hv h, fun v hv j hj => (zae S roots [] j).2 (.inr ⟨v, hv, hj⟩), fun k hk => by simp at hk⟩
theorem Grown.next {S : List Obj} {roots : List Val} {out : List Nat} {i k : Nat} {o : Obj} (h : Grown S roots out i) (hk : out[i]? = some k) (ho : S[k]? = some o) : Grown S roots (addAll S out o.l.xs) (i + 1) := by
 have hi := (List.getElem?_eq_some_iff.1 hk).1
 refine ⟨zaf S _ _ h.nodup, fun j hj => ?_, fun v hv j hj => (zae S _ _ j).2 (.inl (h.roots v hv j hj)), fun q hq p hp v hv j hj => ?_⟩
 ·rcases (zae S _ _ j).1 hj with hj | ⟨v, hv, hj⟩
  ·exact h.reach j hj
  ·exact .step (h.reach k (List.mem_of_getElem? hk)) ho hv hj
 ·obtain ⟨r, hr⟩ := zag S o.l.xs out
  rw [hr, List.take_append_of_le_length (by omega), List.take_add_one, hk, List.mem_append] at hq
  rcases hq with hq | hq
  ·exact (zae S _ _ j).2 (.inl (h.step q hq p hp v hv j hj))
  ·simp at hq; subst hq
   rw [ho] at hp; cases hp
   exact (zae S _ _ j).2 (.inr ⟨v, hv, hj⟩)
theorem Grown.done {S : List Obj} {roots : List Val} {out : List Nat} {i : Nat} (h : Grown S roots out i) (hi : out.length ≤ i) (k : Nat) : k ∈ out ↔ Reach S roots k := by
 refine ⟨h.reach k, fun hk => ?_⟩
 have hs := h.step
 rw [List.take_of_length_le hi] at hs
 induction hk with
 | root hv hl => exact h.roots _ hv _ hl
 | step _ ho hv hl ih => exact hs _ ih _ ho _ hv _ hl
theorem Grown.short {S : List Obj} {roots : List Val} {out : List Nat} {i : Nat} (h : Grown S roots out i) : out.length ≤ S.length := by
 have hp : out.Perm ((List.range S.length).filter fun k => decide (k ∈ out)) := (List.perm_ext_iff_of_nodup h.nodup (List.nodup_range.filter _)).2 fun k => by
  rw [List.mem_filter, List.mem_range]
  exact ⟨fun hk => ⟨(h.reach k hk).lt, by simpa using hk⟩, fun hk => by simpa using hk.2⟩
 rw [hp.length_eq]
 exact Nat.le_trans (List.length_filter_le _ _) (by simp)
end Go.EX


set_option maxHeartbeats 1000000
set_option linter.unusedVariables false
set_option linter.unusedSimpArgs false
namespace Go.EX
def pairV (p : Int × Int) : List Val := [⟨2, p.1⟩, ⟨2, p.2⟩]
def valsP (P : List (Int × Int)) : List Val := P.flatMap pairV
def rowP (P : List (Int × Int)) : List IV := tVal.row (valsP P)
theorem zo0 (P : List (Int × Int)) : (valsP P).length = 2 * P.length := by
 unfold valsP
 induction P with
 | nil => rfl
 | cons p r ih => simp only [List.flatMap_cons, List.length_append, ih, pairV, List.length_cons, List.length_nil]; omega
theorem zl8 (P : List (Int × Int)) : (rowP P).length = 2 * P.length * 2 := by
 unfold rowP
 rw [zmc, zo0]
 rfl
def ivP (P : List (Int × Int)) : IV := if P.length = 0 then .val (.slice none 0 0) else .slice (rowP P) 0 (2 * P.length) (some (2 * P.length))
def stP (P : List (Int × Int)) (room : Int) : IV := .slice [.val (.int .u8 5), .val (.string .empty), ivP P, .val (.int .i64 room), .val (.int .i64 0)] 0 1 (some 1)
def stM (P : List (Int × Int)) (room : Int) : Mem :=
 if P.length = 0 then [.flat [.val (.int .u8 5), .val (.string .empty), .val (.slice none 0 0), .val (.int .i64 room), .val (.int .i64 0)] false]
 else [.rich [.imm (.val (.int .u8 5)), .imm (.val (.string .empty)), .osl 1 0 2 (2 * P.length) (some (2 * P.length)), int64 room, int64 0], .flat (rowP P) false]
section
variable {code : Nat → Option XFun} {ext : Calls'}
structure MapCode (code : Nat → Option XFun) (ext : Calls') : Prop where
 c206 : code 206 = some x206
 c209 : code 209 = some x209
 c211 : code 211 = some x211
 c212 : code 212 = some x212
 c213 : code 213 = some x213
 c214 : code 214 = some x214
 c215 : code 215 = some x215
 c216 : code 216 = some x216
 c217 : code 217 = some x217
 c218 : code 218 = some x218
 c491 : code 491 = some x491
 c578 : code 578 = some x578
 c580 : code 580 = some x580
 c581 : code 581 = some x581
 c630 : code 630 = some x630
 c631 : code 631 = some x631
 c633 : code 633 = some x633
 c636 : code 636 = some x636
 c639 : code 639 = some x639
 c640 : code 640 = some x640
 c641 : code 641 = some x641V
 c642 : code 642 = some x642
 c643 : code 643 = some x643
 c740 : code 740 = some x740
 c741 : code 741 = some x741
 c742 : code 742 = some x742
 c743 : code 743 = some x743
 c749 : code 749 = some x749
 c759 : code 759 = some x759
theorem clipO (c : MapCode code ext) (n : Nat) (R : List IV) (hR : R.length = n * 2) : callW code ext 740 [.osl 0 0 2 n none] [.flat R false] = some (.osl 0 0 2 n (some n), [.flat R false]) := by
 rw [zbk code ext c.c740]
 simp -implicitDefEqProofs [x740, exSlice3, hR]
theorem clipN (c : MapCode code ext) : callW code ext 740 [.imm (.val (.slice none 0 0))] [] = some (.imm (.val (.slice none 0 0)), []) := by
 rw [zbk code ext c.c740]
 simp -implicitDefEqProofs [x740, exSlice3]
theorem cloneN (c : MapCode code ext) : callW code ext 742 [.imm (.val (.slice none 0 0))] [] = some (.imm (.val (.slice none 0 0)), []) := by
 rw [zbk code ext c.c742]
 simp -implicitDefEqProofs [x742]
theorem cloneS (c : MapCode code ext) (n : Nat) (R : List IV) (cap : Option Nat) (hR : R.length = n * 2) (h0 : n ≠ 0) (hn : n ≤ 1000000) : callW code ext 742 [.imm (.slice R 0 n cap)] [] = some (.osl 0 0 2 n none, [.flat R false]) := by
 have h2 : n * 16 ≤ 140737488355328 := by omega
 have hc : cut R 0 (n * 2) = some R := zcc _ hR
 rw [zbk code ext c.c742]
 simp -implicitDefEqProofs [x742, exAppendX, exAppend, elems, hc, h0, h2]
theorem clone743 (c : MapCode code ext) (R : List IV) (cap : Option Nat) (hR : R.length = 5) : callW code ext 743 [.imm (.slice R 0 1 cap)] [] = some (.osl 0 0 5 1 none, [.flat R false]) := by
 have hc : cut R 0 5 = some R := zcc _ hR
 rw [zbk code ext c.c743]
 simp -implicitDefEqProofs [x743, exAppendX, exAppend, elems, hc]
theorem twinM0 (c : MapCode code ext) (room : Int) : callW code ext 643 [.imm (stP [] room)] [] = some (.osl 0 0 5 1 (some 1), stM [] room) := by
 have h1 := clone743 (ext := ext) c [.val (.int .u8 5), .val (.string .empty), .val (.slice none 0 0), .val (.int .i64 room), .val (.int .i64 0)] (some 1) rfl
 have h2 := cloneN (ext := ext) c
 have h3 := clipN (ext := ext) c
 have e1 : IntKind.wrap .i64 1 = 1 := by decide
 rw [zbk code ext c.c643]
 unfold stP ivP stM
 simp only [List.length_nil, if_true]
 simp -implicitDefEqProofs [x643, x643L1, zco, h1, h2, h3, e1, zbk code ext c.c741, x741, exSlice3]
theorem twinM1 (c : MapCode code ext) (P : List (Int × Int)) (h0 : P.length ≠ 0) (hn : P.length ≤ 1000) (room : Int) : callW code ext 643 [.imm (stP P room)] [] = some (.osl 0 0 5 1 (some 1), stM P room) := by
 have hl := zl8 P
 have h1 := clone743 (ext := ext) c [.val (.int .u8 5), .val (.string .empty), .slice (rowP P) 0 (2 * P.length) (some (2 * P.length)), .val (.int .i64 room), .val (.int .i64 0)] (some 1) rfl
 have h2 := cloneS (ext := ext) c (2 * P.length) (rowP P) (some (2 * P.length)) (by omega) (by omega) (by omega)
 have h3 := clipO (ext := ext) c (2 * P.length) (rowP P) (by omega)
 have e1 : IntKind.wrap .i64 1 = 1 := by decide
 rw [zbk code ext c.c643]
 unfold stP ivP stM
 simp only [if_neg h0]
 generalize rowP P = R at *
 generalize 2 * P.length = n at *
 simp -implicitDefEqProofs [x643, x643L1, zco, h1, h2, h3, e1, zbk code ext c.c741, x741, exSlice3]
theorem twinM (c : MapCode code ext) (P : List (Int × Int)) (hn : P.length ≤ 1000) (room : Int) : callW code ext 643 [.imm (stP P room)] [] = some (.osl 0 0 5 1 (some 1), stM P room) := by
 by_cases h0 : P.length = 0
 ·have : P = [] := List.eq_nil_of_length_eq_zero h0
  subst this
  exact twinM0 c room
 ·exact twinM1 c P h0 hn room
end
end Go.EX


set_option linter.unusedVariables false
set_option linter.unusedSimpArgs false
namespace Go.EX
section
variable {code : Nat → Option XFun} {ext : Calls'}
theorem hand1 (c : MapCode code ext) (sv : IV) (v : Val) (hc : callW code ext 646 [.imm sv, .agg [.imm (.val (.int .u8 v.k)), int64 v.n]] [] = some (avb true, [])) :
  callW code ext 641 [.agg [.imm (.val (.int .u8 v.k)), int64 v.n], .optr 0 0] [.rich [.imm sv]] = some (avb false, [.rich [.imm sv]]) := by
 rw [zbk code ext c.c641]
 simp -implicitDefEqProofs [x641V, hc]
theorem zar (c : MapCode code ext) (sv : IV) (vs : List Val) (hl : vs.length ≤ 1000) (h : ∀ v ∈ vs, callW code ext 646 [.imm sv, .agg [.imm (.val (.int .u8 v.k)), int64 v.n]] [] = some (avb true, [])) :
  callW code ext 749 [.osl 0 0 2 vs.length (some vs.length), .clo 641 [.optr 1 0]] [.flat (tVal.row vs) false, .rich [.imm sv]] = some (avb false, [.flat (tVal.row vs) false, .rich [.imm sv]]) := by
 have loop : ∃ e s', den code ext (.loop [0, 1, 7, 8] x759L1) ⟨2, [(0, .osl 0 0 2 vs.length (some vs.length)), (1, .clo 641 [.optr 1 0]), (7, int64 vs.length), (8, int64 0)], [.flat (tVal.row vs) false, .rich [.imm sv]]⟩ = some (e, s') ∧ e ≠ .normal ∧
   (e = .exit 0 ∧ s' = ⟨2, [(0, .osl 0 0 2 vs.length (some vs.length)), (1, .clo 641 [.optr 1 0]), (7, int64 vs.length), (8, int64 vs.length), (9, avb false)], [.flat (tVal.row vs) false, .rich [.imm sv]]⟩) := by
  refine zhb (fun n s => ∃ (i : Nat), i + n = vs.length ∧ s = ⟨2, [(0, .osl 0 0 2 vs.length (some vs.length)), (1, .clo 641 [.optr 1 0]), (7, int64 vs.length), (8, int64 (i : Nat))], [.flat (tVal.row vs) false, .rich [.imm sv]]⟩) _ ?_ vs.length _ ⟨0, by simp, rfl⟩
  rintro n _ ⟨i, hi, rfl⟩
  by_cases hlt : i < vs.length
  ·have e1 : IntKind.wrap .i64 ((i : Int) + 1) = (i : Int) + 1 := wrapI64 (by omega) (by omega)
   have hx := List.getElem?_eq_getElem hlt
   have hget := zeu (t := tVal) hx
   have hs := hand1 (ext := ext) c sv _ (h _ (List.getElem_mem hlt))
   simp only [tVal] at hget
   generalize vs[i] = v at *
   have hget' : cut (tVal.row vs) (i * 2) 2 = some [.val (.int .u8 v.k), .val (.int .i64 v.n)] := hget
   refine ⟨.normal, ⟨2, [(0, .osl 0 0 2 vs.length (some vs.length)), (1, .clo 641 [.optr 1 0]), (7, int64 vs.length), (8, int64 ((i : Int) + 1))], [.flat (tVal.row vs) false, .rich [.imm sv]]⟩, ?_, .inl ⟨rfl, n - 1, by omega, i + 1, by omega, rfl⟩⟩
   clear hget h
   generalize tVal.row vs = R at *
   generalize vs.length = n at *
   simp -implicitDefEqProofs [x759L1, hlt, hget', hs, e1]
  ·have : i = vs.length := by omega
   subst this
   refine ⟨.exit 0, _, ?_, .inr ⟨by simp, rfl, rfl⟩⟩
   generalize tVal.row vs = R at *
   generalize vs.length = n at *
   simp -implicitDefEqProofs [x759L1]
 obtain ⟨e, s', g1, _, rfl, rfl⟩ := loop
 have h759 : callW code ext 759 [.osl 0 0 2 vs.length (some vs.length), .clo 641 [.optr 1 0]] [.flat (tVal.row vs) false, .rich [.imm sv]] = some (int64 (-1), [.flat (tVal.row vs) false, .rich [.imm sv]]) := by
  rw [zbk code ext c.c759]
  clear h
  generalize tVal.row vs = R at *
  generalize vs.length = n at *
  simp -implicitDefEqProofs [x759, g1]
 rw [zbk code ext c.c749]
 clear h g1
 generalize tVal.row vs = R at *
 generalize vs.length = n at *
 simp -implicitDefEqProofs [x749, h759]
def opM (P : List (Int × Int)) (room used : Int) : Mem :=
 if P.length = 0 then [.rich [.osl 1 0 5 1 (some 1), int64 1152921504606846976, int64 used], .flat [.val (.int .u8 5), .val (.string .empty), .val (.slice none 0 0), .val (.int .i64 room), .val (.int .i64 0)] false]
 else [.rich [.osl 1 0 5 1 (some 1), int64 1152921504606846976, int64 used], .rich [.imm (.val (.int .u8 5)), .imm (.val (.string .empty)), .osl 2 0 2 (2 * P.length) (some (2 * P.length)), int64 room, int64 0], .flat (rowP P) false]
end
end Go.EX


set_option linter.unusedVariables false
set_option linter.unusedSimpArgs false
namespace Go.EX
theorem zoz : ∀ (P : List (Int × Int)) (j : Nat) (p : Int × Int), P[j]? = some p → (valsP P)[2 * j]? = some ⟨2, p.1⟩ ∧ (valsP P)[2 * j + 1]? = some ⟨2, p.2⟩
 | [], j, p, h => by simp at h
 | q :: r, 0, p, h => by
  simp at h
  subst h
  exact ⟨rfl, rfl⟩
 | q :: r, j + 1, p, h => by
  have := zoz r j p (by simpa using h)
  have e : valsP (q :: r) = ⟨2, q.1⟩ :: ⟨2, q.2⟩ :: valsP r := rfl
  rw [e, show 2 * (j + 1) = 2 * j + 1 + 1 by omega, List.getElem?_cons_succ, List.getElem?_cons_succ, show 2 * j + 1 + 1 + 1 = (2 * j + 1) + 1 + 1 by omega, List.getElem?_cons_succ, List.getElem?_cons_succ]
  exact this
def findP : List (Int × Int) → Int → Option Nat
 | [], _ => none
 | p :: r, k => if p.1 = k then some 0 else (findP r k).map (· + 1)
theorem zen : ∀ {P : List (Int × Int)} {k : Int}, findP P k = none → ∀ (j : Nat) p, P[j]? = some p → p.1 ≠ k
 | [], k, _, j, p, h => by simp at h
 | q :: r, k, hn, j, p, h => by
  unfold findP at hn
  split at hn
  ·cases hn
  ·rename_i hq
   cases hr : findP r k with
   | some i => rw [hr] at hn; cases hn
   | none =>
    cases j with
    | zero => simp at h; subst h; exact hq
    | succ j => exact zen hr j p (by simpa using h)
theorem zeo : ∀ {P : List (Int × Int)} {k : Int} {i : Nat}, findP P k = some i → (∃ x, P[i]? = some (k, x)) ∧ ∀ (j : Nat) p, j < i → P[j]? = some p → p.1 ≠ k
 | [], k, i, h => by cases h
 | q :: r, k, i, h => by
  unfold findP at h
  split at h
  ·rename_i hq
   cases h
   obtain ⟨a, b⟩ := q
   cases hq
   exact ⟨⟨b, rfl⟩, fun j p hj => absurd hj (Nat.not_lt_zero j)⟩
  ·rename_i hq
   rw [Option.map_eq_some_iff] at h
   obtain ⟨i', hi', rfl⟩ := h
   obtain ⟨⟨x, h1⟩, h2⟩ := zeo hi'
   refine ⟨⟨x, by simpa using h1⟩, fun j p hj hp => ?_⟩
   cases j with
   | zero => simp at hp; subst hp; exact hq
   | succ j => exact h2 j p (by omega) (by simpa using hp)
def atP (P : List (Int × Int)) (k : Int) : Int := match findP P k with
 | some i => 2 * (i : Int)
 | none => -1
section
variable {code : Nat → Option XFun} {ext : Calls'}
theorem sameK (c : MapCode code ext) (P : List (Int × Int)) (room used a b : Int) : callW code ext 216 [.optr 0 0, .agg [.imm (.val (.int .u8 2)), int64 a], .agg [.imm (.val (.int .u8 2)), int64 b]] (opM P room used) = some (avb (decide (a = b)), opM P room used) := by
 rw [zbk code ext c.c216]
 unfold opM
 generalize rowP P = R
 generalize 2 * P.length = n
 split <;> simp -implicitDefEqProofs [x216]
def atM (P : List (Int × Int)) (room used : Int) : Mem :=
 [.rich [.osl 2 0 5 1 (some 1), int64 1152921504606846976, int64 used], .flat (rowP P) false, .rich [.imm (.val (.int .u8 5)), .imm (.val (.string .empty)), .osl 1 0 2 (2 * P.length) (some (2 * P.length)), int64 room, int64 0]]
set_option maxHeartbeats 1000000 in
theorem za5 (c : MapCode code ext) (P : List (Int × Int)) (h0 : P.length ≠ 0) (hn : P.length ≤ 1000) (room used k : Int) :
  callW code ext 209 [.optr 0 0, .osl 1 0 2 (2 * P.length) (some (2 * P.length)), .agg [.imm (.val (.int .u8 2)), int64 k]] (atM P room used) = some (int64 (atP P k), atM P room used) := by
 have hs := fun a => sameK (ext := ext) c P room used a k
 unfold opM at hs
 simp only [if_neg h0] at hs
 have loop : ∃ e s', den code ext (.loop [0, 1, 5, 7] x209L1) ⟨3, [(0, .optr 0 0), (1, .osl 1 0 2 (2 * P.length) (some (2 * P.length))), (5, .optr 3 0), (7, int64 0)], atM P room used ++ [.rich [.imm (.val (.int .u8 2)), int64 k]]⟩ = some (e, s') ∧ e ≠ .normal ∧
   ((e = .exit 0 ∧ findP P k = none ∧ s' = ⟨3, [(0, .optr 0 0), (1, .osl 1 0 2 (2 * P.length) (some (2 * P.length))), (5, .optr 3 0), (7, int64 (2 * P.length : Nat)), (11, avb false)], atM P room used ++ [.rich [.imm (.val (.int .u8 2)), int64 k]]⟩) ∨
    (e = .ret ∧ ∃ i, findP P k = some i ∧ s' = ⟨3, [(6, int64 (2 * i : Nat))], atM P room used ++ [.rich [.imm (.val (.int .u8 2)), int64 k]]⟩)) := by
  refine zhb (fun n s => ∃ (j : Nat), j + n = P.length ∧ (∀ (q : Nat) p, q < j → P[q]? = some p → p.1 ≠ k) ∧ s.tidy [0, 1, 5, 7] = ⟨3, [(0, .optr 0 0), (1, .osl 1 0 2 (2 * P.length) (some (2 * P.length))), (5, .optr 3 0), (7, int64 (2 * j : Nat))], atM P room used ++ [.rich [.imm (.val (.int .u8 2)), int64 k]]⟩) _ ?_ P.length _ ⟨0, by simp, fun q p hq => absurd hq (Nat.not_lt_zero q), ?_⟩
  ·rintro n s ⟨j, hj, hno, hst⟩
   rw [hst]
   by_cases hlt : j < P.length
   ·have hx := List.getElem?_eq_getElem hlt
    generalize P[j] = p at hx
    obtain ⟨hk, _⟩ := zoz P j p hx
    have hget : cut (rowP P) (2 * j * 2) 2 = some [.val (.int .u8 2), .val (.int .i64 p.1)] := zeu (t := tVal) hk
    have hl2 : ((2 * j : Nat) : Int) < ((2 * P.length : Nat) : Int) := by omega
    have hl3 : 2 * j < 2 * P.length := by omega
    have e1 : IntKind.wrap .i64 (((2 * j : Nat) : Int) + 2) = ((2 * (j + 1) : Nat) : Int) := by rw [wrapI64 (by omega) (by omega)]; omega
    have hs1 := hs p.1
    by_cases hpk : p.1 = k
    ·have hf : findP P k = some j := by
      cases hfp : findP P k with
      | none => exact absurd hpk (zen hfp j p hx)
      | some i =>
       obtain ⟨⟨x, hi⟩, hmin⟩ := zeo hfp
       congr 1
       rcases Nat.lt_trichotomy i j with h | h | h
       ·exact absurd rfl (hno i _ h hi)
       ·exact h
       ·exact absurd hpk (hmin j p h hx)
     rw [decide_eq_true hpk] at hs1
     refine ⟨.ret, ⟨3, [(6, int64 (2 * j : Nat))], atM P room used ++ [.rich [.imm (.val (.int .u8 2)), int64 k]]⟩, ?_, .inr ⟨by simp, .inr ⟨rfl, j, hf, rfl⟩⟩⟩
     unfold atM
     clear hst hno hf hs
     generalize rowP P = R at *
     generalize 2 * P.length = m at *
     generalize 2 * (j + 1) = j2 at *
     generalize 2 * j = j1 at *
     generalize p.1 = q at *
     simp -implicitDefEqProofs [x209L1, hl2, hl3, hget, hs1]
    ·rw [decide_eq_false hpk] at hs1
     refine ⟨.normal, ⟨3, [(0, .optr 0 0), (1, .osl 1 0 2 (2 * P.length) (some (2 * P.length))), (5, .optr 3 0), (7, int64 (2 * (j + 1) : Nat))], atM P room used ++ [.rich [.imm (.val (.int .u8 2)), int64 k]]⟩, ?_, .inl ⟨rfl, n - 1, by omega, j + 1, by omega, fun q r hq hr => ?_, ?_⟩⟩
     ·unfold atM
      clear hst hno hs
      generalize rowP P = R at *
      generalize 2 * P.length = m at *
      generalize 2 * (j + 1) = j2 at *
      generalize 2 * j = j1 at *
      generalize p.1 = q at *
      simp -implicitDefEqProofs [x209L1, hl2, hl3, hget, hs1, e1]
     ·rcases Nat.lt_succ_iff_lt_or_eq.1 hq with h | rfl
      ·exact hno q r h hr
      ·rw [hx] at hr
       cases hr
       exact hpk
     ·unfold atM
      generalize rowP P = R at *
      simp -implicitDefEqProofs
   ·have : j = P.length := by omega
    subst this
    have hf : findP P k = none := by
     cases hfp : findP P k with
     | none => rfl
     | some i =>
      obtain ⟨⟨x, hi⟩, _⟩ := zeo hfp
      exact absurd rfl (hno i _ (List.getElem?_eq_some_iff.1 hi).1 hi)
    refine ⟨.exit 0, _, ?_, .inr ⟨by simp, .inl ⟨rfl, hf, rfl⟩⟩⟩
    unfold atM
    clear hst hno hs
    generalize rowP P = R at *
    generalize 2 * P.length = m at *
    simp -implicitDefEqProofs [x209L1]
  ·unfold atM
   generalize rowP P = R at *
   simp -implicitDefEqProofs
 rw [zbk code ext c.c209]
 obtain ⟨e, s', g1, _, ⟨rfl, hf, rfl⟩ | ⟨rfl, i, hf, rfl⟩⟩ := loop
 ·have ha : atP P k = -1 := by unfold atP; rw [hf]
  rw [ha]
  unfold atM at *
  clear hs hf
  unfold x209
  generalize x209L1 = LL at *
  generalize rowP P = R at *
  generalize 2 * P.length = m at *
  simp only [List.cons_append, List.nil_append] at g1
  simp -implicitDefEqProofs [g1]
 ·have ha : atP P k = ((2 * i : Nat) : Int) := by unfold atP; rw [hf]; dsimp only; omega
  rw [ha]
  unfold atM at *
  clear hs hf
  unfold x209
  generalize x209L1 = LL at *
  generalize rowP P = R at *
  generalize 2 * P.length = m at *
  generalize 2 * i = i2 at *
  simp only [List.cons_append, List.nil_append] at g1
  simp -implicitDefEqProofs [g1]
theorem za4 (c : MapCode code ext) (room used k : Int) :
  callW code ext 209 [.optr 0 0, .imm (.val (.slice none 0 0)), .agg [.imm (.val (.int .u8 2)), int64 k]] (opM [] room used) = some (int64 (-1), opM [] room used) := by
 have hl : den code ext (.loop [0, 1, 5, 7] x209L1) ⟨2, [(0, .optr 0 0), (1, .imm (.val (.slice none 0 0))), (5, .optr 2 0), (7, int64 0)], opM [] room used ++ [.rich [.imm (.val (.int .u8 2)), int64 k]]⟩ = some (.exit 0, ⟨2, [(0, .optr 0 0), (1, .imm (.val (.slice none 0 0))), (5, .optr 2 0), (7, int64 0), (11, avb false)], opM [] room used ++ [.rich [.imm (.val (.int .u8 2)), int64 k]]⟩) := by
  rw [zco]
  unfold opM
  simp -implicitDefEqProofs [x209L1]
 rw [zbk code ext c.c209]
 unfold opM at *
 simp only [List.length_nil, if_true, List.cons_append, List.nil_append] at hl ⊢
 unfold x209
 generalize x209L1 = LL at *
 simp -implicitDefEqProofs [hl]
end
end Go.EX


set_option linter.unusedVariables false
set_option linter.unusedSimpArgs false
namespace Go.EX
abbrev emptyS : AV := .imm (.val (.string .empty))
theorem zo1 (P : List (Int × Int)) (i : Nat) (k x y : Int) (h : P[i]? = some (k, y)) : (valsP P).set (2 * i + 1) ⟨2, x⟩ = valsP (P.set i (k, x)) := by
 induction P generalizing i with
 | nil => simp at h
 | cons q r ih =>
  have e : valsP (q :: r) = ⟨2, q.1⟩ :: ⟨2, q.2⟩ :: valsP r := rfl
  cases i with
  | zero =>
   simp at h
   subst h
   rfl
  | succ i =>
   have e2 : valsP ((q :: r).set (i + 1) (k, x)) = ⟨2, q.1⟩ :: ⟨2, q.2⟩ :: valsP (r.set i (k, x)) := rfl
   rw [e, e2, ← ih i (by simpa using h), show 2 * (i + 1) + 1 = (2 * i + 1) + 1 + 1 by omega, List.set_cons_succ, List.set_cons_succ]
theorem zma (P : List (Int × Int)) (i : Nat) (k x y : Int) (h : P[i]? = some (k, y)) : setAll (rowP P) ((2 * i + 1) * 2) [.val (.int .u8 2), .val (.int .i64 x)] = rowP (P.set i (k, x)) := by
 have hi := (List.getElem?_eq_some_iff.1 h).1
 have := zng (t := tVal) (xs := valsP P) (i := 2 * i + 1) (by decide) (by rw [zo0]; omega) ⟨2, x⟩
 rw [zo1 P i k x y h] at this
 exact this
theorem zmb (P : List (Int × Int)) (k x : Int) : rowP P ++ [.val (.int .u8 2), .val (.int .i64 k), .val (.int .u8 2), .val (.int .i64 x)] = rowP (P ++ [(k, x)]) := by
 unfold rowP valsP
 rw [List.flatMap_append]
 unfold Ty.row
 rw [List.flatMap_append]
 rfl
section
variable {code : Nat → Option XFun} {ext : Calls'}
theorem keyedM (c : MapCode code ext) (k : Int) : callW code ext 581 [.agg [.imm (.val (.int .u8 5)), int64 1], .agg [.imm (.val (.int .u8 2)), int64 k]] [] = some (avb true, []) := by
 rw [zbk code ext c.c581]
 simp -implicitDefEqProofs [x581]
theorem objM (c : MapCode code ext) (P : List (Int × Int)) (room used : Int) : callW code ext 213 [.optr 0 0, .agg [.imm (.val (.int .u8 5)), int64 1]] (opM P room used) = some (.optr 1 0, opM P room used) := by
 rw [zbk code ext c.c213]
 have e1 : IntKind.wrap .i64 0 = 0 := by decide
 unfold opM
 generalize rowP P = R
 generalize 2 * P.length = n
 split <;> simp -implicitDefEqProofs [x213, e1]
theorem takesM (c : MapCode code ext) (P : List (Int × Int)) (room used w : Int) (hu : 0 ≤ used ∧ used ≤ 1000000) (hw : 0 ≤ w ∧ w ≤ 1000000) : callW code ext 218 [.optr 0 0, int64 w] (opM P room used) = some (avb true, opM P room (used + w)) := by
 rw [zbk code ext c.c218]
 have e1 : IntKind.wrap .i64 (used + w) = used + w := wrapI64 (by omega) (by omega)
 have e2 : ¬ 1152921504606846976 < used + w := by omega
 unfold opM
 generalize rowP P = R
 generalize 2 * P.length = n
 split <;> simp -implicitDefEqProofs [x218, e1, e2]
set_option maxHeartbeats 2000000 in
theorem zkz (c : MapCode code ext) (P : List (Int × Int)) (hn : P.length ≤ 1000) (room used k x y : Int) (i : Nat) (hf : findP P k = some i) (hi : P[i]? = some (k, y)) :
  callW code ext 215 [.optr 0 0, .agg [.imm (.val (.int .u8 5)), int64 1], .agg [.imm (.val (.int .u8 2)), int64 k], .agg [.imm (.val (.int .u8 2)), int64 x]] (opM P room used) =
   some (.agg [.imm (.val (.int .u8 0)), int64 0, emptyS, avb false], opM (P.set i (k, x)) room used) := by
 have hil := (List.getElem?_eq_some_iff.1 hi).1
 have h0 : P.length ≠ 0 := by omega
 have h1 := keyedM (ext := ext) c k
 have h2 := objM (ext := ext) c P room used
 have h3 := za5 (ext := ext) c P h0 hn room used k
 have ha : atP P k = ((2 * i : Nat) : Int) := by unfold atP; rw [hf]; dsimp only; omega
 rw [ha] at h3
 have hset := zma P i k x y hi
 have hrl := zl8 P
 have e1 : IntKind.wrap .i64 (((2 * i : Nat) : Int) + 1) = ((2 * i + 1 : Nat) : Int) := by rw [wrapI64 (by omega) (by omega)]; omega
 have q1 : (0 : Int) ≤ ((2 * i : Nat) : Int) := by omega
 have q2 : ¬ ((2 * i + 1 : Nat) : Int) < 0 := by omega
 have q3 : ¬ ((2 * P.length : Nat) : Int) < ((2 * i + 1 : Nat) : Int) := by omega
 have q4 : ((2 * i + 1 : Nat) : Int) < ((2 * P.length : Nat) : Int) := by omega
 have q5 : (0 : Int) ≤ ((2 * i + 1 : Nat) : Int) := by omega
 have q6 : (2 * i + 1) * 2 + 2 ≤ (rowP P).length := by omega
 have q7 : 2 * i + 1 < 2 * P.length := by omega
 rw [zbk code ext c.c215]
 unfold opM atM at *
 rw [List.length_set]
 simp only [if_neg h0] at h2 ⊢
 clear ha hf hi hrl
 generalize rowP (P.set i (k, x)) = R2 at *
 generalize rowP P = R at *
 generalize 2 * P.length = n at *
 generalize 2 * i + 1 = i1 at *
 generalize 2 * i = i0 at *
 simp -implicitDefEqProofs [x215, h1, h2, h3, hset, e1, q1, q2, q3, q4, q5, q6, q7]
end
end Go.EX


set_option maxHeartbeats 4000000
set_option linter.unusedVariables false
set_option linter.unusedSimpArgs false
namespace Go.EX
def roomP (n : Nat) (room : Int) : Int := if room < ((2 * n : Nat) : Int) + 2 then max 8 (2 * room) else room
def usedP (n : Nat) (room used : Int) : Int := if room < ((2 * n : Nat) : Int) + 2 then used + (1 + 2 * roomP n room) else used
def newM (P : List (Int × Int)) (k x room used : Int) : Mem :=
 if P.length = 0 then [.rich [.osl 1 0 5 1 (some 1), int64 1152921504606846976, int64 used], .rich [.imm (.val (.int .u8 5)), .imm (.val (.string .empty)), .osl 2 0 2 2 none, int64 room, int64 0], .flat (rowP (P ++ [(k, x)])) false]
 else [.rich [.osl 1 0 5 1 (some 1), int64 1152921504606846976, int64 used], .rich [.imm (.val (.int .u8 5)), .imm (.val (.string .empty)), .osl 3 0 2 (2 * P.length + 2) none, int64 room, int64 0], .flat (rowP P) false, .flat (rowP (P ++ [(k, x)])) false]
section
variable {code : Nat → Option XFun} {ext : Calls'}
theorem zk1 (c : MapCode code ext) (P : List (Int × Int)) (h0 : P.length ≠ 0) (hn : P.length ≤ 1000) (room used k x : Int) (hr : 0 ≤ room ∧ room ≤ 10000) (hu : 0 ≤ used ∧ used ≤ 100000) (hf : findP P k = none) :
  callW code ext 215 [.optr 0 0, .agg [.imm (.val (.int .u8 5)), int64 1], .agg [.imm (.val (.int .u8 2)), int64 k], .agg [.imm (.val (.int .u8 2)), int64 x]] (opM P room used) =
   some (.agg [.imm (.val (.int .u8 0)), int64 0, emptyS, avb false], newM P k x (roomP P.length room) (usedP P.length room used)) := by
 have h1 := keyedM (ext := ext) c k
 have h2 := objM (ext := ext) c P room used
 have h3 := za5 (ext := ext) c P h0 hn room used k
 have ha : atP P k = -1 := by unfold atP; rw [hf]
 rw [ha] at h3
 have hsn := zmb P k x
 have hrl := zl8 P
 have hcut : cut (rowP P) 0 (2 * P.length * 2) = some (rowP P) := zcc _ hrl
 have hcut2 : cut (rowP P ++ [.val (.int .u8 2), .val (.int .i64 k)]) 0 ((2 * P.length + 1) * 2) = some (rowP P ++ [.val (.int .u8 2), .val (.int .i64 k)]) := zcc _ (by rw [List.length_append, hrl]; simp; omega)
 have q1 : ¬ ((2 * P.length : Nat) : Int) < 0 := by omega
 have q3 : ¬ (131072 : Int) ≤ ((2 * P.length : Nat) : Int) := by omega
 have q5 : (2 * P.length + 1) * 16 ≤ 140737488355328 := by omega
 have q6 : (2 * P.length + 1 + 1) * 16 ≤ 140737488355328 := by omega
 have e2 : IntKind.wrap .i64 131072 = 131072 := by decide
 have e3 : IntKind.wrap .i64 (((2 * P.length : Nat) : Int) + 2) = ((2 * P.length : Nat) : Int) + 2 := wrapI64 (by omega) (by omega)
 have e4 : IntKind.wrap .i64 8 = 8 := by decide
 have e5 : IntKind.wrap .i64 (2 * room) = 2 * room := wrapI64 (by omega) (by omega)
 have hmx : 8 ≤ max 8 (2 * room) ∧ max 8 (2 * room) ≤ 20000 := by omega
 have ht := takesM (ext := ext) c P room used (1 + 2 * max 8 (2 * room)) ⟨hu.1, by omega⟩ (by omega)
 rw [zbk code ext c.c215]
 unfold newM roomP usedP
 unfold opM atM at *
 simp only [if_neg h0] at h2 ht ⊢
 by_cases hg : room < ((2 * P.length : Nat) : Int) + 2
 ·simp only [roomP, if_pos hg]
  have hm2 : max (8 : Int) (2 * room) = if (8 : Int) < 2 * room then 2 * room else 8 := by
   by_cases h : (8 : Int) < 2 * room
   ·rw [if_pos h]; omega
   ·rw [if_neg h]; omega
  have q7 : ¬ (2 * P.length + 1 ≤ 2 * P.length) := by omega
  generalize hM : max (8 : Int) (2 * room) = M at *
  have hm3 := hm2.symm
  have e6 : IntKind.wrap .i64 (2 * M) = 2 * M := wrapI64 (by omega) (by omega)
  have e7 : IntKind.wrap .i64 (1 + 2 * M) = 1 + 2 * M := wrapI64 (by omega) (by omega)
  clear ha hf hrl hm2 hM
  generalize rowP (P ++ [(k, x)]) = R2 at *
  generalize rowP P = R at *
  generalize 2 * P.length = n at *
  simp -implicitDefEqProofs [x215, h1, h2, h3, ht, hg, hm3, e2, e3, e4, e5, e6, e7, q1, q3, q5, q6, q7, hcut, hcut2, hsn, exAppendX, exAppend, elems]
 ·simp only [if_neg hg]
  have q7 : ¬ (2 * P.length + 1 ≤ 2 * P.length) := by omega
  clear ha hf hrl ht hmx
  generalize rowP (P ++ [(k, x)]) = R2 at *
  generalize rowP P = R at *
  generalize 2 * P.length = n at *
  simp -implicitDefEqProofs [x215, h1, h2, h3, hg, e2, e3, e4, e5, q1, q3, q5, q6, q7, hcut, hcut2, hsn, exAppendX, exAppend, elems]
theorem zky (c : MapCode code ext) (used k x : Int) (hu : 0 ≤ used ∧ used ≤ 100000) :
  callW code ext 215 [.optr 0 0, .agg [.imm (.val (.int .u8 5)), int64 1], .agg [.imm (.val (.int .u8 2)), int64 k], .agg [.imm (.val (.int .u8 2)), int64 x]] (opM [] 0 used) =
   some (.agg [.imm (.val (.int .u8 0)), int64 0, emptyS, avb false], newM [] k x 8 (used + 17)) := by
 have h1 := keyedM (ext := ext) c k
 have h2 := objM (ext := ext) c [] 0 used
 have h3 := za4 (ext := ext) c 0 used k
 have ht := takesM (ext := ext) c [] 0 used 17 ⟨hu.1, by omega⟩ (by omega)
 have e1 : IntKind.wrap .i64 131072 = 131072 := by decide
 have e2 : IntKind.wrap .i64 2 = 2 := by decide
 have e3 : IntKind.wrap .i64 8 = 8 := by decide
 have e4 : IntKind.wrap .i64 0 = 0 := by decide
 have e5 : IntKind.wrap .i64 16 = 16 := by decide
 have e6 : IntKind.wrap .i64 17 = 17 := by decide
 have hrow : rowP [(k, x)] = [.val (.int .u8 2), .val (.int .i64 k), .val (.int .u8 2), .val (.int .i64 x)] := rfl
 rw [zbk code ext c.c215]
 unfold newM
 unfold opM at *
 simp only [List.length_nil, if_true, List.nil_append, hrow] at h2 h3 ht ⊢
 simp -implicitDefEqProofs [x215, h1, h2, h3, ht, e1, e2, e3, e4, e5, e6, exAppendX, exAppend, elems]
end
end Go.EX


set_option maxHeartbeats 4000000
set_option linter.unusedVariables false
set_option linter.unusedSimpArgs false
namespace Go.EX
section
variable {code : Nat → Option XFun} {ext : Calls'}
abbrev put3 (k x : Int) : List IV := [.val (.int .u8 5), .val (.int .i64 1), .val (.int .u8 2), .val (.int .i64 k), .val (.int .u8 2), .val (.int .i64 x)]
abbrev get2 (k : Int) : List IV := [.val (.int .u8 5), .val (.int .i64 1), .val (.int .u8 2), .val (.int .i64 k)]
abbrev len1 : List IV := [.val (.int .u8 5), .val (.int .i64 1)]
theorem cells3 (c : MapCode code ext) (k x : Int) : callW code ext 580 [.imm (.slice (put3 k x) 0 3 (some 3))] [] = some (avb false, []) := by
 have e1 : IntKind.wrap .i64 1 = 1 := by decide
 have e2 : IntKind.wrap .i64 2 = 2 := by decide
 have e3 : IntKind.wrap .i64 3 = 3 := by decide
 rw [zbk code ext c.c580]
 simp -implicitDefEqProofs [x580, x580L1, zco, cut, e1, e2, e3]
theorem cells2 (c : MapCode code ext) (k : Int) : callW code ext 580 [.imm (.slice (get2 k) 0 2 (some 2))] [] = some (avb false, []) := by
 have e1 : IntKind.wrap .i64 1 = 1 := by decide
 have e2 : IntKind.wrap .i64 2 = 2 := by decide
 rw [zbk code ext c.c580]
 simp -implicitDefEqProofs [x580, x580L1, zco, cut, e1, e2]
theorem cells1 (c : MapCode code ext) : callW code ext 580 [.imm (.slice len1 0 1 (some 1))] [] = some (avb false, []) := by
 have e1 : IntKind.wrap .i64 1 = 1 := by decide
 rw [zbk code ext c.c580]
 simp -implicitDefEqProofs [x580, x580L1, zco, cut, e1]
def doM (vs : List IV) (P : List (Int × Int)) (room used : Int) : Mem :=
 if P.length = 0 then [.rich [.osl 2 0 5 1 (some 1), int64 1152921504606846976, int64 used], .flat vs false, .flat [.val (.int .u8 5), .val (.string .empty), .val (.slice none 0 0), .val (.int .i64 room), .val (.int .i64 0)] false]
 else [.rich [.osl 2 0 5 1 (some 1), int64 1152921504606846976, int64 used], .flat vs false, .rich [.imm (.val (.int .u8 5)), .imm (.val (.string .empty)), .osl 3 0 2 (2 * P.length) (some (2 * P.length)), int64 room, int64 0], .flat (rowP P) false]
def doN (vs : List IV) (P : List (Int × Int)) (k x room used : Int) : Mem :=
 if P.length = 0 then [.rich [.osl 2 0 5 1 (some 1), int64 1152921504606846976, int64 used], .flat vs false, .rich [.imm (.val (.int .u8 5)), .imm (.val (.string .empty)), .osl 3 0 2 2 none, int64 room, int64 0], .flat (rowP (P ++ [(k, x)])) false]
 else [.rich [.osl 2 0 5 1 (some 1), int64 1152921504606846976, int64 used], .flat vs false, .rich [.imm (.val (.int .u8 5)), .imm (.val (.string .empty)), .osl 4 0 2 (2 * P.length + 2) none, int64 room, int64 0], .flat (rowP P) false, .flat (rowP (P ++ [(k, x)])) false]
theorem zcw (c : MapCode code ext) (P : List (Int × Int)) (hn : P.length ≤ 1000) (room used k x y : Int) (i : Nat) (hf : findP P k = some i) (hi : P[i]? = some (k, y)) :
  callW code ext 206 [.optr 0 0, .agg [.imm (.val (.int .u8 25)), int64 0, .osl 1 0 2 3 (some 3), .imm (.val (.slice none 0 0))]] (doM (put3 k x) P room used) =
   some (.agg [.imm (.val (.int .u8 0)), int64 0, emptyS, avb false], doM (put3 k x) (P.set i (k, x)) room used) := by
 have hil := (List.getElem?_eq_some_iff.1 hi).1
 have h0 : P.length ≠ 0 := by omega
 have h1 := cells3 (ext := ext) c k x
 have h2 := zkz (ext := ext) c P hn room used k x y i hf hi
 rw [zbk code ext c.c206]
 unfold doM
 unfold opM at h2
 rw [List.length_set] at h2 ⊢
 simp only [if_neg h0] at h2 ⊢
 clear hf hi
 generalize rowP (P.set i (k, x)) = R2 at *
 generalize rowP P = R at *
 generalize 2 * P.length = n at *
 simp -implicitDefEqProofs [x206, h1, h2, cut]
theorem do_new (c : MapCode code ext) (P : List (Int × Int)) (h0 : P.length ≠ 0) (hn : P.length ≤ 1000) (room used k x : Int) (hr : 0 ≤ room ∧ room ≤ 10000) (hu : 0 ≤ used ∧ used ≤ 100000) (hf : findP P k = none) :
  callW code ext 206 [.optr 0 0, .agg [.imm (.val (.int .u8 25)), int64 0, .osl 1 0 2 3 (some 3), .imm (.val (.slice none 0 0))]] (doM (put3 k x) P room used) =
   some (.agg [.imm (.val (.int .u8 0)), int64 0, emptyS, avb false], doN (put3 k x) P k x (roomP P.length room) (usedP P.length room used)) := by
 have h1 := cells3 (ext := ext) c k x
 have h2 := zk1 (ext := ext) c P h0 hn room used k x hr hu hf
 rw [zbk code ext c.c206]
 unfold doM doN
 unfold opM newM at h2
 simp only [if_neg h0] at h2 ⊢
 clear hf
 generalize usedP P.length room used = used' at *
 generalize roomP P.length room = room' at *
 generalize rowP (P ++ [(k, x)]) = R2 at *
 generalize rowP P = R at *
 generalize 2 * P.length = n at *
 simp -implicitDefEqProofs [x206, h1, h2, cut]
theorem zcv (c : MapCode code ext) (used k x : Int) (hu : 0 ≤ used ∧ used ≤ 100000) :
  callW code ext 206 [.optr 0 0, .agg [.imm (.val (.int .u8 25)), int64 0, .osl 1 0 2 3 (some 3), .imm (.val (.slice none 0 0))]] (doM (put3 k x) [] 0 used) =
   some (.agg [.imm (.val (.int .u8 0)), int64 0, emptyS, avb false], doN (put3 k x) [] k x 8 (used + 17)) := by
 have h1 := cells3 (ext := ext) c k x
 have h2 := zky (ext := ext) c used k x hu
 rw [zbk code ext c.c206]
 unfold doM doN
 unfold opM newM at h2
 simp only [List.length_nil, if_true] at h2 ⊢
 generalize rowP ([] ++ [(k, x)]) = R2 at *
 simp -implicitDefEqProofs [x206, h1, h2, cut]
end
end Go.EX


set_option maxHeartbeats 2000000
set_option linter.unusedVariables false
set_option linter.unusedSimpArgs false
namespace Go.EX
def mapW (room : Int) : Int := if 0 < room then 4 + 2 * room else 3
theorem zn5 {code : Nat → Option XFun} {ext : Calls'} {p : Option (XExit × St)} {k : List Nat} {X : St} (h : p.map (fun q => (q.1, q.2.tidy k)) = some (.normal, X)) : ∃ s', p = some (.normal, s') ∧ s'.tidy k = X := by
 cases p with
 | none => cases h
 | some q =>
  obtain ⟨e, s'⟩ := q
  simp only [Option.map_some, Option.some.injEq, Prod.mk.injEq] at h
  obtain ⟨rfl, h⟩ := h
  exact ⟨s', rfl, h⟩
section
variable {code : Nat → Option XFun} {ext : Calls'}
theorem sizeM5 (c : MapCode code ext) (lv : IV) (room : Int) (hr : 0 ≤ room ∧ room ≤ 100000) : ∃ m, callW code ext 578 [.agg [.imm (.val (.int .u8 5)), .imm (.val (.string .empty)), .imm lv, int64 room, int64 0]] [] = some (int64 (mapW room), m) := by
 have e1 : IntKind.wrap .i64 (2 * room) = 2 * room := wrapI64 (by omega) (by omega)
 have e2 : IntKind.wrap .i64 (4 + 2 * room) = 4 + 2 * room := wrapI64 (by omega) (by omega)
 have fin : ∀ {p : Option (AV × Mem)} {v : AV}, p.map Prod.fst = some v → ∃ m : Mem, p = some (v, m) := fun {p v} h => by
  cases p with
  | none => cases h
  | some q => obtain ⟨a, m⟩ := q; cases h; exact ⟨m, rfl⟩
 apply fin
 rw [zbk code ext c.c578]
 unfold mapW
 by_cases h : 0 < room
 ·simp -implicitDefEqProofs [x578, h, e1, e2]
 ·simp -implicitDefEqProofs [x578, h]
theorem sizes1 (c : MapCode code ext) (lv : IV) (room : Int) (hr : 0 ≤ room ∧ room ≤ 100000) (cap : Option Nat) : callW code ext 642 [.imm (.slice [.val (.int .u8 5), .val (.string .empty), lv, .val (.int .i64 room), .val (.int .i64 0)] 0 1 cap)] [] = some (.osl 0 0 1 1 none, [.flat [.val (.int .i64 (mapW room))] false]) := by
 obtain ⟨m, h1⟩ := sizeM5 (ext := ext) c lv room hr
 have e1 : IntKind.wrap .i64 1 = 1 := by decide
 rw [zbk code ext c.c642]
 generalize mapW room = w at *
 simp -implicitDefEqProofs [x642, x642L1, zco, cut, h1, e1, exAppendX, exAppend, elems]
theorem asked1 (c : MapCode code ext) (lv : IV) (room was : Int) (hr : 0 ≤ room ∧ room ≤ 100000) (cap : Option Nat) :
  callW code ext 639 [.imm (.slice [.val (.int .u8 5), .val (.string .empty), lv, .val (.int .i64 room), .val (.int .i64 0)] 0 1 cap), .imm (.slice [.val (.int .i64 was)] 0 1 none)] [] = some (int64 (if mapW room = was then 0 else 1 + 2 * room), []) := by
 obtain ⟨m, h1⟩ := sizeM5 (ext := ext) c lv room hr
 have e1 : IntKind.wrap .i64 1 = 1 := by decide
 have e0 : IntKind.wrap .i64 0 = 0 := by decide
 have e2 : IntKind.wrap .i64 (2 * room) = 2 * room := wrapI64 (by omega) (by omega)
 have e3 : IntKind.wrap .i64 (1 + 2 * room) = 1 + 2 * room := wrapI64 (by omega) (by omega)
 rw [zbk code ext c.c639]
 generalize mapW room = w at *
 by_cases h : w = was
 ·simp -implicitDefEqProofs [x639, x639L1, zco, cut, h1, h, e0, e1]
 ·simp -implicitDefEqProofs [x639, x639L1, zco, cut, h1, h, e0, e1, e2, e3]
theorem twinO (c : MapCode code ext) (R : List IV) (n : Nat) (cap : Option Nat) (hR : R.length = n * 2) (hP : ∀ x ∈ R, IV.plain x = true) (h0 : n ≠ 0) (hn : n ≤ 10000) (room : Int) :
  callW code ext 643 [.osl 0 0 5 1 (some 1)] [.rich [.imm (.val (.int .u8 5)), .imm (.val (.string .empty)), .osl 1 0 2 n cap, int64 room, int64 0], .flat R false] =
   some (.osl 2 0 5 1 (some 1), [.rich [.imm (.val (.int .u8 5)), .imm (.val (.string .empty)), .osl 1 0 2 n cap, int64 room, int64 0], .flat R false, .rich [.imm (.val (.int .u8 5)), .imm (.val (.string .empty)), .osl 3 0 2 n (some n), int64 room, int64 0], .flat R false]) := by
 have h1 : callW code ext 743 [.osl 0 0 5 1 (some 1)] [.rich [.imm (.val (.int .u8 5)), .imm (.val (.string .empty)), .osl 1 0 2 n cap, int64 room, int64 0], .flat R false] =
   some (.osl 2 0 5 1 none, [.rich [.imm (.val (.int .u8 5)), .imm (.val (.string .empty)), .osl 1 0 2 n cap, int64 room, int64 0], .flat R false, .rich [.imm (.val (.int .u8 5)), .imm (.val (.string .empty)), .osl 1 0 2 n cap, int64 room, int64 0]]) := by
  rw [zbk code ext c.c743]
  simp -implicitDefEqProofs [x743, exAppendX, exAppend, exAppendR, elems, elemsR, cut]
 have h2 := cloneS (ext := ext) c n R cap hR h0 (by omega)
 have h3 := clipO (ext := ext) c n R hR
 have e1 : IntKind.wrap .i64 1 = 1 := by decide
 have r1 := zn5 (code := code) (ext := ext) (k := [3, 8, 9]) (p := den code ext x643L1 ⟨2, [(3, .osl 2 0 5 1 none), (8, int64 1), (9, int64 0)], [.rich [.imm (.val (.int .u8 5)), .imm (.val (.string .empty)), .osl 1 0 2 n cap, int64 room, int64 0], .flat R false, .rich [.imm (.val (.int .u8 5)), .imm (.val (.string .empty)), .osl 1 0 2 n cap, int64 room, int64 0]]⟩)
  (X := ⟨2, [(3, .osl 2 0 5 1 none), (8, int64 1), (9, int64 1)], [.rich [.imm (.val (.int .u8 5)), .imm (.val (.string .empty)), .osl 1 0 2 n cap, int64 room, int64 0], .flat R false, .rich [.imm (.val (.int .u8 5)), .imm (.val (.string .empty)), .osl 3 0 2 n (some n), int64 room, int64 0], .flat R false]⟩) (by
   have hP2 : R.all IV.plain = true := List.all_eq_true.2 hP
   simp -implicitDefEqProofs [x643L1, h2, h3, e1, cut, hP2, hP, -IV.plain, -List.all_eq_true])
 obtain ⟨s1, a1, b1⟩ := r1
 have hl : den code ext (.loop [3, 8, 9] x643L1) ⟨2, [(3, .osl 2 0 5 1 none), (8, int64 1), (9, int64 0)], [.rich [.imm (.val (.int .u8 5)), .imm (.val (.string .empty)), .osl 1 0 2 n cap, int64 room, int64 0], .flat R false, .rich [.imm (.val (.int .u8 5)), .imm (.val (.string .empty)), .osl 1 0 2 n cap, int64 room, int64 0]]⟩ =
   some (.exit 0, ⟨2, [(3, .osl 2 0 5 1 none), (8, int64 1), (9, int64 1), (10, avb false)], [.rich [.imm (.val (.int .u8 5)), .imm (.val (.string .empty)), .osl 1 0 2 n cap, int64 room, int64 0], .flat R false, .rich [.imm (.val (.int .u8 5)), .imm (.val (.string .empty)), .osl 3 0 2 n (some n), int64 room, int64 0], .flat R false]⟩) := by
  rw [zco]
  have ht : St.tidy ⟨2, [(3, .osl 2 0 5 1 none), (8, int64 1), (9, int64 0)], [.rich [.imm (.val (.int .u8 5)), .imm (.val (.string .empty)), .osl 1 0 2 n cap, int64 room, int64 0], .flat R false, .rich [.imm (.val (.int .u8 5)), .imm (.val (.string .empty)), .osl 1 0 2 n cap, int64 room, int64 0]]⟩ [3, 8, 9] = ⟨2, [(3, .osl 2 0 5 1 none), (8, int64 1), (9, int64 0)], [.rich [.imm (.val (.int .u8 5)), .imm (.val (.string .empty)), .osl 1 0 2 n cap, int64 room, int64 0], .flat R false, .rich [.imm (.val (.int .u8 5)), .imm (.val (.string .empty)), .osl 1 0 2 n cap, int64 room, int64 0]]⟩ := by simp -implicitDefEqProofs
  rw [ht, a1]
  simp only [andThen]
  rw [zco, b1]
  simp -implicitDefEqProofs [x643L1]
 clear a1 b1 h2 h3
 rw [zbk code ext c.c643]
 unfold x643
 generalize x643L1 = LL at *
 simp -implicitDefEqProofs [h1, hl, zbk code ext c.c741, x741, exSlice3, cut]
end
end Go.EX


set_option maxHeartbeats 4000000
set_option linter.unusedVariables false
set_option linter.unusedSimpArgs false
namespace Go.EX
theorem zl9 (P : List (Int × Int)) : ∀ x ∈ rowP P, IV.plain x = true := by
 intro x hx
 unfold rowP Ty.row at hx
 obtain ⟨v, hv, hx⟩ := List.mem_flatMap.1 hx
 simp [tVal] at hx
 rcases hx with rfl | rfl <;> rfl
section
variable {code : Nat → Option XFun} {ext : Calls'}
def Fine (code : Nat → Option XFun) (ext : Calls') (sv : IV) (vs : List Val) : Prop := ∀ v ∈ vs, callW code ext 646 [.imm sv, .agg [.imm (.val (.int .u8 v.k)), int64 v.n]] [] = some (avb true, [])
abbrev put3v (k x : Int) : List Val := [⟨5, 1⟩, ⟨2, k⟩, ⟨2, x⟩]
def didM (vs : List IV) (P : List (Int × Int)) (room w : Int) : AV × Mem :=
 (.agg [.osl 1 0 5 1 (some 1), .imm (.val (.int .u8 0)), int64 0, emptyS, int64 w], [.flat vs false, .rich [.imm (.val (.int .u8 5)), .imm (.val (.string .empty)), .osl 2 0 2 (2 * P.length) (some (2 * P.length)), int64 room, int64 0], .flat (rowP P) false])
theorem zkk (c : MapCode code ext) (P : List (Int × Int)) (hn : P.length ≤ 1000) (room k x y : Int) (hr : 0 ≤ room ∧ room ≤ 10000) (i : Nat) (hf : findP P k = some i) (hi : P[i]? = some (k, y)) (hv : Fine code ext (stP P room) (put3v k x)) :
  ∃ w, callW code ext 640 [.imm (stP P room), .imm (.val (.int .u8 25)), int64 0, .osl 0 0 2 3 (some 3)] [.flat (put3 k x) false] = some (didM (put3 k x) (P.set i (k, x)) room w) := by
 have hil := (List.getElem?_eq_some_iff.1 hi).1
 have h0 : P.length ≠ 0 := by omega
 have t1 := twinM (ext := ext) c P hn room
 have t2 : callW code ext 749 [.osl 0 0 2 3 (some 3), .clo 641 [.optr 1 0]] [.flat (put3 k x) false, .rich [.imm (stP P room)]] = some (avb false, [.flat (put3 k x) false, .rich [.imm (stP P room)]]) := zar (ext := ext) c (stP P room) (put3v k x) (by simp) hv
 have t3 := sizes1 (ext := ext) c (.slice (rowP P) 0 (2 * P.length) (some (2 * P.length))) room ⟨hr.1, by omega⟩ (some 1)
 have t4 := zcw (ext := ext) c P hn room 0 k x y i hf hi
 have hl2 : (P.set i (k, x)).length = P.length := List.length_set ..
 have hR := zl8 (P.set i (k, x))
 rw [hl2] at hR
 have t5 := twinO (ext := ext) c (rowP (P.set i (k, x))) (2 * P.length) (some (2 * P.length)) hR (zl9 _) (by omega) (by omega) room
 have t6 := asked1 (ext := ext) c (.slice (rowP (P.set i (k, x))) 0 (2 * P.length) (some (2 * P.length))) room (mapW room) ⟨hr.1, by omega⟩ (some 1)
 rw [if_pos rfl] at t6
 refine ⟨0, ?_⟩
 rw [zbk code ext c.c640]
 unfold didM
 unfold stM at t1
 unfold doM at t4
 rw [hl2] at t4 ⊢
 simp only [if_neg h0] at t1 t4 ⊢
 clear hf hi hv hR hl2
 generalize stP P room = sv at *
 generalize rowP (P.set i (k, x)) = R2 at *
 generalize rowP P = R at *
 generalize 2 * P.length = n at *
 generalize mapW room = mw at *
 simp -implicitDefEqProofs [x640, t1, t2, t3, t4, t5, t6]
theorem zkn (c : MapCode code ext) (P : List (Int × Int)) (h0 : P.length ≠ 0) (hn : P.length ≤ 1000) (room k x : Int) (hr : 0 ≤ room ∧ room ≤ 10000) (hf : findP P k = none) (hv : Fine code ext (stP P room) (put3v k x)) :
  ∃ w, callW code ext 640 [.imm (stP P room), .imm (.val (.int .u8 25)), int64 0, .osl 0 0 2 3 (some 3)] [.flat (put3 k x) false] = some (didM (put3 k x) (P ++ [(k, x)]) (roomP P.length room) w) := by
 have t1 := twinM (ext := ext) c P hn room
 have t2 : callW code ext 749 [.osl 0 0 2 3 (some 3), .clo 641 [.optr 1 0]] [.flat (put3 k x) false, .rich [.imm (stP P room)]] = some (avb false, [.flat (put3 k x) false, .rich [.imm (stP P room)]]) := zar (ext := ext) c (stP P room) (put3v k x) (by simp) hv
 have t3 := sizes1 (ext := ext) c (.slice (rowP P) 0 (2 * P.length) (some (2 * P.length))) room ⟨hr.1, by omega⟩ (some 1)
 have t4 := do_new (ext := ext) c P h0 hn room 0 k x hr ⟨by omega, by omega⟩ hf
 have hl2 : (P ++ [(k, x)]).length = P.length + 1 := by simp
 have hR := zl8 (P ++ [(k, x)])
 rw [hl2, show 2 * (P.length + 1) = 2 * P.length + 2 by omega] at hR
 have hrm : 0 ≤ roomP P.length room ∧ roomP P.length room ≤ 20000 := by unfold roomP; split <;> omega
 have t5 := twinO (ext := ext) c (rowP (P ++ [(k, x)])) (2 * P.length + 2) none hR (zl9 _) (by omega) (by omega) (roomP P.length room)
 have t6 := asked1 (ext := ext) c (.slice (rowP (P ++ [(k, x)])) 0 (2 * P.length + 2) none) (roomP P.length room) (mapW room) ⟨hrm.1, by omega⟩ (some 1)
 refine ⟨if mapW (roomP P.length room) = mapW room then 0 else 1 + 2 * roomP P.length room, ?_⟩
 rw [zbk code ext c.c640]
 unfold didM
 rw [hl2, show 2 * (P.length + 1) = 2 * P.length + 2 by omega]
 unfold stM at t1
 unfold doM doN at t4
 simp only [if_neg h0] at t1 t4 ⊢
 generalize (if mapW (roomP P.length room) = mapW room then (0 : Int) else 1 + 2 * roomP P.length room) = w at *
 clear hf hv hR hl2 hrm hr
 generalize usedP P.length room 0 = us at *
 generalize stP P room = sv at *
 generalize rowP (P ++ [(k, x)]) = R2 at *
 generalize rowP P = R at *
 generalize roomP P.length room = rm at *
 generalize 2 * P.length = n at *
 generalize mapW room = mw at *
 simp -implicitDefEqProofs [x640, t1, t2, t3, t4, t5, t6]
theorem zkj (c : MapCode code ext) (k x : Int) (hv : Fine code ext (stP [] 0) (put3v k x)) :
  ∃ w, callW code ext 640 [.imm (stP [] 0), .imm (.val (.int .u8 25)), int64 0, .osl 0 0 2 3 (some 3)] [.flat (put3 k x) false] = some (didM (put3 k x) [(k, x)] 8 w) := by
 have t1 := twinM (ext := ext) c [] (by simp) 0
 have t2 : callW code ext 749 [.osl 0 0 2 3 (some 3), .clo 641 [.optr 1 0]] [.flat (put3 k x) false, .rich [.imm (stP [] 0)]] = some (avb false, [.flat (put3 k x) false, .rich [.imm (stP [] 0)]]) := zar (ext := ext) c (stP [] 0) (put3v k x) (by simp) hv
 have t3 := sizes1 (ext := ext) c (.val (.slice none 0 0)) 0 ⟨by omega, by omega⟩ (some 1)
 have t4 := zcv (ext := ext) c 0 k x ⟨by omega, by omega⟩
 have hR := zl8 [(k, x)]
 have t5 := twinO (ext := ext) c (rowP [(k, x)]) 2 none hR (zl9 _) (by omega) (by omega) 8
 have t6 := asked1 (ext := ext) c (.slice (rowP [(k, x)]) 0 2 none) 8 (mapW 0) ⟨by omega, by omega⟩ (some 1)
 refine ⟨if mapW 8 = mapW 0 then 0 else 1 + 2 * 8, ?_⟩
 rw [zbk code ext c.c640]
 unfold didM
 unfold stM at t1
 unfold doM doN at t4
 simp only [List.length_nil, if_true, List.nil_append, List.length_singleton, Nat.mul_one] at t1 t4 ⊢
 generalize (if mapW 8 = mapW 0 then (0 : Int) else 1 + 2 * 8) = w at *
 clear hv hR
 generalize stP [] 0 = sv at *
 generalize rowP [(k, x)] = R2 at *
 generalize mapW 0 = mw at *
 simp -implicitDefEqProofs [x640, t1, t2, t3, t4, t5, t6]
end
end Go.EX


set_option maxHeartbeats 4000000
set_option linter.unusedVariables false
set_option linter.unusedSimpArgs false
namespace Go.EX
section
variable {code : Nat → Option XFun} {ext : Calls'}
theorem zfg (c : MapCode code ext) (P : List (Int × Int)) (hn : P.length ≤ 1000) (room used k x : Int) (i : Nat) (hf : findP P k = some i) (hi : P[i]? = some (k, x)) :
  callW code ext 211 [.optr 0 0, .agg [.imm (.val (.int .u8 5)), int64 1], .agg [.imm (.val (.int .u8 2)), int64 k]] (opM P room used) = some (.agg [.imm (.val (.int .u8 2)), int64 x, emptyS, avb false], opM P room used) := by
 have hil := (List.getElem?_eq_some_iff.1 hi).1
 have h0 : P.length ≠ 0 := by omega
 have h1 := keyedM (ext := ext) c k
 have h2 := objM (ext := ext) c P room used
 have h3 := za5 (ext := ext) c P h0 hn room used k
 have ha : atP P k = ((2 * i : Nat) : Int) := by unfold atP; rw [hf]; dsimp only; omega
 rw [ha] at h3
 have hget : cut (rowP P) ((2 * i + 1) * 2) 2 = some [.val (.int .u8 2), .val (.int .i64 x)] := zeu (t := tVal) (zoz P i (k, x) hi).2
 have e1 : IntKind.wrap .i64 (((2 * i : Nat) : Int) + 1) = ((2 * i + 1 : Nat) : Int) := by rw [wrapI64 (by omega) (by omega)]; omega
 have q1 : (0 : Int) ≤ ((2 * i : Nat) : Int) := by omega
 have q2 : (0 : Int) ≤ ((2 * i + 1 : Nat) : Int) := by omega
 have q4 : ((2 * i + 1 : Nat) : Int) < ((2 * P.length : Nat) : Int) := by omega
 have q5 : 2 * i + 1 < 2 * P.length := by omega
 rw [zbk code ext c.c211]
 unfold opM atM at *
 simp only [if_neg h0] at h2 ⊢
 clear ha hf hi
 generalize rowP P = R at *
 generalize 2 * P.length = n at *
 generalize 2 * i + 1 = i1 at *
 generalize 2 * i = i0 at *
 simp -implicitDefEqProofs [x211, h1, h2, h3, hget, e1, q1, q2, q4, q5]
theorem zg0 (c : MapCode code ext) (P : List (Int × Int)) (hn : P.length ≤ 1000) (room used : Int) :
  callW code ext 217 [.optr 0 0, .agg [.imm (.val (.int .u8 5)), int64 1]] (opM P room used) = some (.agg [.imm (.val (.int .u8 2)), int64 P.length, emptyS, avb false], opM P room used) := by
 have h2 := objM (ext := ext) c P room used
 have e1 : IntKind.wrap .i64 (((2 * P.length : Nat) : Int).tdiv 2) = (P.length : Int) := by
  rw [Int.tdiv_eq_ediv_of_nonneg (by omega), wrapI64 (by omega) (by omega)]; omega
 have e2 : IntKind.wrap .i64 (((2 * P.length : Nat) : Int) / 2) = (P.length : Int) := by rw [wrapI64 (by omega) (by omega)]; omega
 have e0 : IntKind.wrap .i64 0 = 0 := by decide
 rw [zbk code ext c.c217]
 unfold opM at *
 by_cases h0 : P.length = 0
 ·simp only [if_pos h0] at h2 ⊢
  rw [h0]
  simp -implicitDefEqProofs [x217, h2, e0]
 ·simp only [if_neg h0] at h2 ⊢
  generalize rowP P = R at *
  generalize hm : 2 * P.length = n at *
  clear hm
  generalize P.length = p at *
  simp -implicitDefEqProofs [x217, h2, e1, e2]
theorem do_get (c : MapCode code ext) (P : List (Int × Int)) (hn : P.length ≤ 1000) (room used k x : Int) (i : Nat) (hf : findP P k = some i) (hi : P[i]? = some (k, x)) :
  callW code ext 206 [.optr 0 0, .agg [.imm (.val (.int .u8 24)), int64 0, .osl 1 0 2 2 (some 2), .imm (.val (.slice none 0 0))]] (doM (get2 k) P room used) =
   some (.agg [.imm (.val (.int .u8 2)), int64 x, emptyS, avb false], doM (get2 k) P room used) := by
 have hil := (List.getElem?_eq_some_iff.1 hi).1
 have h0 : P.length ≠ 0 := by omega
 have h1 := cells2 (ext := ext) c k
 have h2 := zfg (ext := ext) c P hn room used k x i hf hi
 rw [zbk code ext c.c206]
 unfold doM
 unfold opM at h2
 simp only [if_neg h0] at h2 ⊢
 clear hf hi
 generalize rowP P = R at *
 generalize 2 * P.length = n at *
 simp -implicitDefEqProofs [x206, h1, h2, cut]
theorem do_len (c : MapCode code ext) (P : List (Int × Int)) (hn : P.length ≤ 1000) (room used : Int) :
  callW code ext 206 [.optr 0 0, .agg [.imm (.val (.int .u8 17)), int64 0, .osl 1 0 2 1 (some 1), .imm (.val (.slice none 0 0))]] (doM len1 P room used) =
   some (.agg [.imm (.val (.int .u8 2)), int64 P.length, emptyS, avb false], doM len1 P room used) := by
 have h1 := cells1 (ext := ext) c
 have h2 := zg0 (ext := ext) c P hn room used
 rw [zbk code ext c.c206]
 unfold doM
 unfold opM at h2
 by_cases h0 : P.length = 0
 ·simp only [if_pos h0] at h2 ⊢
  rw [h0] at *
  simp -implicitDefEqProofs [x206, h1, h2, cut]
 ·simp only [if_neg h0] at h2 ⊢
  generalize rowP P = R at *
  generalize hm : 2 * P.length = n at *
  clear hm
  generalize P.length = p at *
  simp -implicitDefEqProofs [x206, h1, h2, cut]
def didV (vs : List IV) (P : List (Int × Int)) (room v w : Int) : AV × Mem :=
 if P.length = 0 then (.agg [.osl 1 0 5 1 (some 1), .imm (.val (.int .u8 2)), int64 v, emptyS, int64 w], [.flat vs false, .flat [.val (.int .u8 5), .val (.string .empty), .val (.slice none 0 0), .val (.int .i64 room), .val (.int .i64 0)] false])
 else (.agg [.osl 1 0 5 1 (some 1), .imm (.val (.int .u8 2)), int64 v, emptyS, int64 w], [.flat vs false, .rich [.imm (.val (.int .u8 5)), .imm (.val (.string .empty)), .osl 2 0 2 (2 * P.length) (some (2 * P.length)), int64 room, int64 0], .flat (rowP P) false])
theorem zkl (c : MapCode code ext) (P : List (Int × Int)) (hn : P.length ≤ 1000) (room k x : Int) (hr : 0 ≤ room ∧ room ≤ 20000) (i : Nat) (hf : findP P k = some i) (hi : P[i]? = some (k, x)) (hv : Fine code ext (stP P room) [⟨5, 1⟩, ⟨2, k⟩]) :
  callW code ext 640 [.imm (stP P room), .imm (.val (.int .u8 24)), int64 0, .osl 0 0 2 2 (some 2)] [.flat (get2 k) false] = some (didV (get2 k) P room x 0) := by
 have hil := (List.getElem?_eq_some_iff.1 hi).1
 have h0 : P.length ≠ 0 := by omega
 have t1 := twinM (ext := ext) c P hn room
 have t2 : callW code ext 749 [.osl 0 0 2 2 (some 2), .clo 641 [.optr 1 0]] [.flat (get2 k) false, .rich [.imm (stP P room)]] = some (avb false, [.flat (get2 k) false, .rich [.imm (stP P room)]]) := zar (ext := ext) c (stP P room) [⟨5, 1⟩, ⟨2, k⟩] (by simp) hv
 have t3 := sizes1 (ext := ext) c (.slice (rowP P) 0 (2 * P.length) (some (2 * P.length))) room ⟨hr.1, by omega⟩ (some 1)
 have t4 := do_get (ext := ext) c P hn room 0 k x i hf hi
 have hR := zl8 P
 have t5 := twinO (ext := ext) c (rowP P) (2 * P.length) (some (2 * P.length)) hR (zl9 _) (by omega) (by omega) room
 have t6 := asked1 (ext := ext) c (.slice (rowP P) 0 (2 * P.length) (some (2 * P.length))) room (mapW room) ⟨hr.1, by omega⟩ (some 1)
 rw [if_pos rfl] at t6
 rw [zbk code ext c.c640]
 unfold didV
 unfold stM at t1
 unfold doM at t4
 simp only [if_neg h0] at t1 t4 ⊢
 clear hf hi hv hR
 generalize stP P room = sv at *
 generalize rowP P = R at *
 generalize 2 * P.length = n at *
 generalize mapW room = mw at *
 simp -implicitDefEqProofs [x640, t1, t2, t3, t4, t5, t6]
end
end Go.EX


set_option maxHeartbeats 4000000
set_option linter.unusedVariables false
set_option linter.unusedSimpArgs false
namespace Go.EX
section
variable {code : Nat → Option XFun} {ext : Calls'}
theorem twinO0 (c : MapCode code ext) (room : Int) :
  callW code ext 643 [.osl 0 0 5 1 (some 1)] [.flat [.val (.int .u8 5), .val (.string .empty), .val (.slice none 0 0), .val (.int .i64 room), .val (.int .i64 0)] false] =
   some (.osl 1 0 5 1 (some 1), [.flat [.val (.int .u8 5), .val (.string .empty), .val (.slice none 0 0), .val (.int .i64 room), .val (.int .i64 0)] false, .flat [.val (.int .u8 5), .val (.string .empty), .val (.slice none 0 0), .val (.int .i64 room), .val (.int .i64 0)] false]) := by
 have h1 : callW code ext 743 [.osl 0 0 5 1 (some 1)] [.flat [.val (.int .u8 5), .val (.string .empty), .val (.slice none 0 0), .val (.int .i64 room), .val (.int .i64 0)] false] =
   some (.osl 1 0 5 1 none, [.flat [.val (.int .u8 5), .val (.string .empty), .val (.slice none 0 0), .val (.int .i64 room), .val (.int .i64 0)] false, .flat [.val (.int .u8 5), .val (.string .empty), .val (.slice none 0 0), .val (.int .i64 room), .val (.int .i64 0)] false]) := by
  rw [zbk code ext c.c743]
  simp -implicitDefEqProofs [x743, exAppendX, exAppend, exAppendR, elems, elemsR, cut]
 have h2 := cloneN (ext := ext) c
 have h3 := clipN (ext := ext) c
 have e1 : IntKind.wrap .i64 1 = 1 := by decide
 rw [zbk code ext c.c643]
 simp -implicitDefEqProofs [x643, x643L1, zco, h1, h2, h3, e1, zbk code ext c.c741, x741, exSlice3, cut]
theorem zkm (c : MapCode code ext) (P : List (Int × Int)) (hn : P.length ≤ 1000) (room : Int) (hr : 0 ≤ room ∧ room ≤ 20000) (hv : Fine code ext (stP P room) [⟨5, 1⟩]) :
  callW code ext 640 [.imm (stP P room), .imm (.val (.int .u8 17)), int64 0, .osl 0 0 2 1 (some 1)] [.flat len1 false] = some (didV len1 P room P.length 0) := by
 have t1 := twinM (ext := ext) c P hn room
 have t2 : callW code ext 749 [.osl 0 0 2 1 (some 1), .clo 641 [.optr 1 0]] [.flat len1 false, .rich [.imm (stP P room)]] = some (avb false, [.flat len1 false, .rich [.imm (stP P room)]]) := zar (ext := ext) c (stP P room) [⟨5, 1⟩] (by simp) hv
 have t4 := do_len (ext := ext) c P hn room 0
 have t6 := fun lv => asked1 (ext := ext) c lv room (mapW room) ⟨hr.1, by omega⟩ (some 1)
 simp only [if_true] at t6
 have t3 := fun lv => sizes1 (ext := ext) c lv room ⟨hr.1, by omega⟩ (some 1)
 by_cases h0 : P.length = 0
 ·have t5 := twinO0 (ext := ext) c room
  rw [zbk code ext c.c640]
  unfold didV
  unfold stM at t1
  unfold doM at t4
  simp only [if_pos h0] at t1 t4 ⊢
  rw [h0] at *
  clear hv
  generalize stP P room = sv at *
  generalize mapW room = mw at *
  simp -implicitDefEqProofs [x640, t1, t2, t3, t4, t5, t6]
 ·have hR := zl8 P
  have t5 := twinO (ext := ext) c (rowP P) (2 * P.length) (some (2 * P.length)) hR (zl9 _) (by omega) (by omega) room
  rw [zbk code ext c.c640]
  unfold didV
  unfold stM at t1
  unfold doM at t4
  simp only [if_neg h0] at t1 t4 ⊢
  clear hv hR
  generalize stP P room = sv at *
  generalize rowP P = R at *
  generalize hm : 2 * P.length = n at *
  clear hm
  generalize P.length = p at *
  generalize mapW room = mw at *
  simp -implicitDefEqProofs [x640, t1, t2, t3, t4, t5, t6]
theorem zf6 {P : List (Int × Int)} (h : P.length ≠ 0) : ivP P = .slice (rowP P) 0 (2 * P.length) (some (2 * P.length)) := by unfold ivP; rw [if_neg h]
abbrev mapV : AV := .agg [.imm (.val (.int .u8 5)), int64 1]
abbrev numV (n : Int) : AV := .agg [.imm (.val (.int .u8 2)), int64 n]
theorem zkw (c : MapCode code ext) (P Q : List (Int × Int)) (h0 : Q.length ≠ 0) (room room' k x w : Int)
  (h : callW code ext 640 [.imm (stP P room), .imm (.val (.int .u8 25)), int64 0, .osl 0 0 2 3 (some 3)] [.flat (put3 k x) false] = some (didM (put3 k x) Q room' w)) (s : St) :
  exView (callW code ext) s 636 [.imm (stP P room), mapV, numV k, numV x] = some (.agg [.imm (stP Q room'), .imm (.val (.int .u8 0)), int64 0, emptyS, int64 w], s) := by
 have h1 : callW code ext 636 [.imm (stP P room), mapV, numV k, numV x] [] = some (.agg [.osl 0 0 5 1 (some 1), .imm (.val (.int .u8 0)), int64 0, emptyS, int64 w], [.rich [.imm (.val (.int .u8 5)), .imm (.val (.string .empty)), .osl 1 0 2 (2 * Q.length) (some (2 * Q.length)), int64 room', int64 0], .flat (rowP Q) false]) := by
  rw [zbk code ext c.c636]
  unfold didM at h
  generalize stP P room = sv at *
  generalize rowP Q = R at *
  generalize 2 * Q.length = n at *
  simp -implicitDefEqProofs [x636, h]
 have hs : stP Q room' = .slice [.val (.int .u8 5), .val (.string .empty), .slice (rowP Q) 0 (2 * Q.length) (some (2 * Q.length)), .val (.int .i64 room'), .val (.int .i64 0)] 0 1 (some 1) := by unfold stP; rw [zf6 h0]
 rw [hs]
 generalize stP P room = sv at *
 generalize rowP Q = R at *
 generalize 2 * Q.length = n at *
 simp -implicitDefEqProofs [h1]
theorem zff (c : MapCode code ext) (P : List (Int × Int)) (h0 : P.length ≠ 0) (room k x : Int)
  (h : callW code ext 640 [.imm (stP P room), .imm (.val (.int .u8 24)), int64 0, .osl 0 0 2 2 (some 2)] [.flat (get2 k) false] = some (didV (get2 k) P room x 0)) (s : St) :
  exView (callW code ext) s 630 [.imm (stP P room), mapV, numV k] = some (.agg [.imm (stP P room), .imm (.val (.int .u8 2)), int64 x, emptyS, int64 0], s) := by
 have hs : stP P room = .slice [.val (.int .u8 5), .val (.string .empty), .slice (rowP P) 0 (2 * P.length) (some (2 * P.length)), .val (.int .i64 room), .val (.int .i64 0)] 0 1 (some 1) := by unfold stP; rw [zf6 h0]
 have h1 : callW code ext 630 [.imm (stP P room), mapV, numV k] [] = some (.agg [.osl 0 0 5 1 (some 1), .imm (.val (.int .u8 2)), int64 x, emptyS, int64 0], [.rich [.imm (.val (.int .u8 5)), .imm (.val (.string .empty)), .osl 1 0 2 (2 * P.length) (some (2 * P.length)), int64 room, int64 0], .flat (rowP P) false]) := by
  rw [zbk code ext c.c630]
  unfold didV at h
  rw [if_neg h0] at h
  clear hs
  generalize stP P room = sv at *
  generalize rowP P = R at *
  generalize 2 * P.length = n at *
  simp -implicitDefEqProofs [x630, h]
 rw [hs] at h1 ⊢
 clear h hs
 generalize rowP P = R at *
 generalize 2 * P.length = n at *
 simp -implicitDefEqProofs [h1]
theorem zgz (c : MapCode code ext) (P : List (Int × Int)) (room : Int)
  (h : callW code ext 640 [.imm (stP P room), .imm (.val (.int .u8 17)), int64 0, .osl 0 0 2 1 (some 1)] [.flat len1 false] = some (didV len1 P room P.length 0)) (s : St) :
  exView (callW code ext) s 631 [.imm (stP P room), mapV] = some (.agg [.imm (stP P room), .imm (.val (.int .u8 2)), int64 P.length, emptyS, int64 0], s) := by
 by_cases h0 : P.length = 0
 ·have hs : stP P room = .slice [.val (.int .u8 5), .val (.string .empty), .val (.slice none 0 0), .val (.int .i64 room), .val (.int .i64 0)] 0 1 (some 1) := by unfold stP ivP; rw [if_pos h0]
  have h1 : callW code ext 631 [.imm (stP P room), mapV] [] = some (.agg [.osl 0 0 5 1 (some 1), .imm (.val (.int .u8 2)), int64 P.length, emptyS, int64 0], [.flat [.val (.int .u8 5), .val (.string .empty), .val (.slice none 0 0), .val (.int .i64 room), .val (.int .i64 0)] false]) := by
   rw [zbk code ext c.c631]
   unfold didV at h
   rw [if_pos h0] at h
   clear hs
   generalize stP P room = sv at *
   generalize P.length = p at *
   simp -implicitDefEqProofs [x631, h]
  rw [hs] at h1 ⊢
  clear h hs
  generalize P.length = p at *
  simp -implicitDefEqProofs [h1]
 ·have hs : stP P room = .slice [.val (.int .u8 5), .val (.string .empty), .slice (rowP P) 0 (2 * P.length) (some (2 * P.length)), .val (.int .i64 room), .val (.int .i64 0)] 0 1 (some 1) := by unfold stP; rw [zf6 h0]
  have h1 : callW code ext 631 [.imm (stP P room), mapV] [] = some (.agg [.osl 0 0 5 1 (some 1), .imm (.val (.int .u8 2)), int64 P.length, emptyS, int64 0], [.rich [.imm (.val (.int .u8 5)), .imm (.val (.string .empty)), .osl 1 0 2 (2 * P.length) (some (2 * P.length)), int64 room, int64 0], .flat (rowP P) false]) := by
   rw [zbk code ext c.c631]
   unfold didV at h
   rw [if_neg h0] at h
   clear hs
   generalize stP P room = sv at *
   generalize rowP P = R at *
   generalize hm : 2 * P.length = n at *
   clear hm
   generalize P.length = p at *
   simp -implicitDefEqProofs [x631, h]
  rw [hs] at h1 ⊢
  clear h hs
  generalize rowP P = R at *
  generalize hm : 2 * P.length = n at *
  clear hm
  generalize P.length = p at *
  simp -implicitDefEqProofs [h1]
end
end Go.EX


set_option linter.unusedVariables false
set_option linter.unusedSimpArgs false
namespace Go.EX
@[simp] theorem isNilK_tagP (b a : Nat) (row : List IV) (off : Nat) : isNilK 1 (.tag b a (.ptr row off)) = some false := rfl
@[simp] theorem isNilK_tagS (b a : Nat) (row : List IV) (off len : Nat) (cap : Option Nat) : isNilK 0 (.tag b a (.slice row off len cap)) = some false := rfl
@[simp] theorem isNil_tag (b a : Nat) (x : IV) : isNil (.tag b a x) = some false := rfl
@[simp] theorem lenOf_tag (b a : Nat) (row : List IV) (off len : Nat) (cap : Option Nat) : lenOf (.tag b a (.slice row off len cap)) = some len := rfl
structure TP where
 b : Nat
 a : Nat
 row : List IV
 off : Nat
def TP.at (t : TP) (k : Nat) : AV := .tag t.b (t.a + k * 5) (.ptr t.row (t.off + k * 5))
def TP.sl (t : TP) (n : Nat) (cap : Option Nat) : AV := .tag t.b t.a (.slice t.row t.off n cap)
@[simp] theorem at_ren (f : Nat → Option Nat) (t : TP) (k : Nat) : (t.at k).ren f = t.at k := rfl
@[simp] theorem at_refs (t : TP) (k : Nat) : (t.at k).refs = [] := rfl
def ptrsT (t : TP) (out : List Nat) : List AV := out.map t.at
def seenT (t : TP) (out : List Nat) : List (AV × AV) := out.map fun k => (t.at k, avb true)
@[simp] theorem renL_ptrsT (f : Nat → Option Nat) (t : TP) (out : List Nat) : AV.ren.renL f (ptrsT t out) = ptrsT t out := by
 rw [zlk]
 simp [ptrsT]
@[simp] theorem seenT_ren (f : Nat → Option Nat) (t : TP) (out : List Nat) : List.map (fun p => (AV.ren f p.1, AV.ren f p.2)) (seenT t out) = seenT t out := by
 simp [seenT, AV.ren]
@[simp] theorem refs_ptrsT (t : TP) (out : List Nat) : AV.refs.refsL (ptrsT t out) = [] := by
 unfold ptrsT
 induction out with
 | nil => rfl
 | cons x r ih => simp only [List.map_cons, AV.refs.refsL, ih, at_refs]; rfl
@[simp] theorem refs_seenT1 (t : TP) (out : List Nat) : AV.refs.refsL (List.map (fun x => x.1) (seenT t out)) = [] := by
 unfold seenT
 induction out with
 | nil => rfl
 | cons x r ih => simp only [List.map_cons, AV.refs.refsL, ih, at_refs]; rfl
@[simp] theorem refs_seenT2 (t : TP) (out : List Nat) : AV.refs.refsL (List.map (fun x => x.2) (seenT t out)) = [] := by
 unfold seenT
 induction out with
 | nil => rfl
 | cons x r ih => simp only [List.map_cons, AV.refs.refsL, ih, AV.refs]; rfl
theorem zgc (m : Mem) (t : TP) (k x : Nat) : keyEq m 3 (t.at k) (t.at x) = some (decide (k = x)) := by
 have h : (t.a + k * 5 == t.a + x * 5) = decide (k = x) := by
  by_cases h : k = x
  ·subst h; simp
  ·simp [h]
   omega
 simp [keyEq, TP.at, h]
theorem zej (t : TP) (k : Nat) : ∀ (out : List Nat) (i : Nat),
  (k ∉ out ∧ ∀ m : Mem, findK m 3 (t.at k) (seenT t out) i = some none) ∨
  (k ∈ out ∧ ∃ j, (∀ m : Mem, findK m 3 (t.at k) (seenT t out) i = some (some (i + j))) ∧ (seenT t out)[j]? = some (t.at k, avb true))
 | [], i => .inl ⟨by simp, fun _ => rfl⟩
 | x :: r, i => by
  by_cases h : k = x
  ·subst h
   exact .inr ⟨by simp, 0, fun m => by simp [seenT, findK, zgc], rfl⟩
  ·have hf : ∀ m : Mem, findK m 3 (t.at k) (seenT t (x :: r)) i = findK m 3 (t.at k) (seenT t r) (i + 1) := fun m => by simp [seenT, findK, zgc, h]
   rcases zej t k r (i + 1) with ⟨h1, h2⟩ | ⟨h1, j, h2, h3⟩
   ·exact .inl ⟨by simp [h, h1], fun m => by rw [hf, h2]⟩
   ·refine .inr ⟨by simp [h1], j + 1, fun m => ?_, h3⟩
    rw [hf, h2]; congr 2; omega
theorem zm9 (t : TP) (k : Nat) (out : List Nat) : seenT t out ++ [(t.at k, avb true)] = seenT t (out ++ [k]) := by simp [seenT]
theorem zkp (t : TP) (k : Nat) (out : List Nat) : ptrsT t out ++ [t.at k] = ptrsT t (out ++ [k]) := by simp [ptrsT]
theorem zci (t : TP) (out : List Nat) : cut (ptrsT t out) 0 out.length = some (ptrsT t out) := zcc _ (by simp [ptrsT])
section
variable {code : Nat → Option XFun} {ext : Calls'}
def leadT (t : TP) : Option Nat → AV
 | some k => t.at k
 | none => .imm (.val (.pointer none))
structure StoreT (code : Nat → Option XFun) (ext : Calls') (sA : AV) (t : TP) (S : List Obj) : Prop where
 refs : sA.refs = []
 ren : ∀ f, sA.ren f = sA
 box : AV.cells sA = some [sA]
 lead : ∀ v : Val, (tInt .i64).wf v.n → callW code ext 651 [sA, .agg [.imm (.val (.int .u8 v.k)), int64 v.n]] [] = some (leadT t (leadsOf S v), [])
 obj : ∀ (k : Nat) (o : Obj), S[k]? = some o → cut t.row (t.off + k * 5) 5 = some [.val (.int .u8 o.k), .val (.string o.s), o.l.iv, .val (.int .i64 o.room), .val (.int .i64 o.fn)]
theorem zgu (h : code 651 = some x651) (t : TP) (S : List Obj) (cap : Option Nat) (hr : Reads tObj (.slice t.row t.off S.length cap) S) (v : Val) (hv : (tInt .i64).wf v.n) :
  callW code ext 651 [t.sl S.length cap, .agg [.imm (.val (.int .u8 v.k)), int64 v.n]] [] = some (leadT t (leadsOf S v), []) := by
 have hb := hr.2.1
 rw [zbk code ext h]
 unfold leadsOf TP.sl
 by_cases c1 : v.k < 3
 ·simp -implicitDefEqProofs [x651, c1, leadT]
 by_cases c2 : 7 < v.k
 ·simp -implicitDefEqProofs [x651, c1, c2, leadT]
 by_cases c3 : v.n < 1
 ·simp -implicitDefEqProofs [x651, c1, c2, c3, leadT]
 by_cases c4 : (S.length : Int) < v.n
 ·simp -implicitDefEqProofs [x651, c1, c2, c3, c4, leadT, lenOf]
 obtain ⟨vk, vn⟩ := v
 simp only at c1 c2 c3 c4 ⊢
 obtain ⟨p, rfl⟩ : ∃ p : Nat, vn = (p : Int) + 1 := ⟨(vn - 1).toNat, by omega⟩
 have hlt : p < S.length := by omega
 have hi := List.getElem?_eq_getElem hlt
 have ep : ((p : Int) + 1 - 1).toNat = p := by omega
 rw [if_neg c1, if_neg c2, if_neg c3, if_neg c4, ep, hi]
 obtain ⟨row', off', cap', he, _, _, hget⟩ := zld hr hi
 cases he
 generalize S[p] = o at hget
 simp only [tObj] at hget
 have g0 : t.row[t.off + p * 5]? = some (.val (.int .u8 o.k)) := zce hget 0 (by omega)
 have e1 : IntKind.wrap .i64 (p : Int) = p := wrapI64 (by omega) (by omega)
 by_cases c5 : o.k = vk
 ·simp -implicitDefEqProofs [x651, c1, c2, c3, c4, e1, g0, c5, hlt, leadT, lenOf, TP.at]
 ·simp -implicitDefEqProofs [x651, c1, c2, c3, c4, e1, g0, c5, hlt, leadT, lenOf, TP.at]
theorem zgs (h : code 651 = some x651) (t : TP) {sv : IV} (hr : Reads tObj sv []) (v : Val) (hv : (tInt .i64).wf v.n) :
  callW code ext 651 [.imm sv, .agg [.imm (.val (.int .u8 v.k)), int64 v.n]] [] = some (leadT t (leadsOf [] v), []) := by
 have hlen : lenOf (.imm sv) = some 0 := zlc hr
 have hn : leadsOf [] v = none := by
  cases hq : leadsOf [] v with
  | none => rfl
  | some k => exact absurd (zgt hq).1 (by simp)
 rw [hn, zbk code ext h]
 by_cases c1 : v.k < 3
 ·simp -implicitDefEqProofs [x651, c1, leadT]
 by_cases c2 : 7 < v.k
 ·simp -implicitDefEqProofs [x651, c1, c2, leadT]
 by_cases c3 : v.n < 1
 ·simp -implicitDefEqProofs [x651, c1, c2, c3, leadT]
 have c4 : (0 : Int) < v.n := by omega
 simp -implicitDefEqProofs [x651, c1, c2, c3, c4, leadT, hlen]
theorem zn8 (h : code 651 = some x651) (t : TP) (S : List Obj) (cap : Option Nat) (hr : Reads tObj (.slice t.row t.off S.length cap) S) : StoreT code ext (t.sl S.length cap) t S :=
 ⟨rfl, fun _ => rfl, rfl, fun v hv => zgu h t S cap hr v hv, fun k o ho => by
  obtain ⟨row', off', cap', he, _, _, hget⟩ := zld hr ho
  cases he
  exact hget⟩
theorem zn7 (h : code 651 = some x651) (t : TP) {sv : IV} (hr : Reads tObj sv []) : StoreT code ext (.imm sv) t [] :=
 ⟨rfl, fun _ => rfl, rfl, fun v hv => zgs h t hr v hv, fun k o ho => by simp at ho⟩
end
end Go.EX


set_option linter.unusedVariables false
set_option linter.unusedSimpArgs false
namespace Go.EX
section
variable {code : Nat → Option XFun} {ext : Calls'}
def addBaseT (sA : AV) (t : TP) (out : List Nat) (o : AV) : Mem := [.rich [sA], .rich [.omap 3], .rich [o], .map (seenT t out)]
abbrev addEnvT (lv : IV) (n i : Int) : Env := [(1, .optr 0 0), (2, .optr 1 0), (3, .optr 2 0), (8, .imm lv), (9, int64 n), (10, int64 i)]
theorem zaj {sA : AV} {t : TP} {T : List Obj} (hT : StoreT code ext sA t T) (row : List IV) (off : Nat) (cap : Option Nat) (l : List Val) (hl : Reads tVal (.slice row off l.length cap) l) (out : List Nat) (i : Nat) (v : Val) (hv : l[i]? = some v)
  (hold : leadsOf T v = none ∨ ∃ k, leadsOf T v = some k ∧ k ∈ out) (k : Nat) (o : AV) (tail : Mem) (hk : (k = 4 ∧ ((out = [] ∧ o = nilS ∧ tail = []) ∨ (o = .osl 4 0 1 out.length none ∧ tail = [.rich (ptrsT t out)]))) ∨ (k = 5 ∧ ((o = .osl 4 0 1 out.length none ∧ tail = [.rich (ptrsT t out)]) ∨ (o = .osl 5 0 1 out.length none ∧ tail = [.dead, .rich (ptrsT t out)])))) :
  ∃ s', den code ext x655L1 ⟨k, addEnvT (.slice row off l.length cap) l.length i, addBaseT sA t out o ++ tail⟩ = some (.normal, s') ∧ s'.tidy [1, 2, 3, 8, 9, 10] = ⟨k, addEnvT (.slice row off l.length cap) l.length ((i : Int) + 1), addBaseT sA t out o ++ tail⟩ := by
 have hlt := (List.getElem?_eq_some_iff.1 hv).1
 obtain ⟨row', off', cap', he, hc, hcut, hget⟩ := zld hl hv
 cases he
 simp only [tVal] at hget
 have hb2 := hl.2.1
 have hw := (hl.1 v (List.mem_of_getElem? hv)).2
 have e1 : IntKind.wrap .i64 ((i : Int) + 1) = (i : Int) + 1 := wrapI64 (by omega) (by omega)
 have hld := hT.lead v hw
 have hsr := hT.refs
 have hsn := hT.ren
 rcases hold with hn | ⟨q, hq, hm⟩
 ·rw [hn, leadT] at hld
  rcases hk with ⟨rfl, ⟨rfl, rfl, rfl⟩ | ⟨rfl, rfl⟩⟩ | ⟨rfl, ⟨rfl, rfl⟩ | ⟨rfl, rfl⟩⟩
  ·refine ⟨⟨4, addEnvT (.slice row off l.length cap) l.length ((i : Int) + 1), addBaseT sA t [] nilS ++ [.rich [.imm (.val (.int .u8 v.k)), int64 v.n]]⟩, ?_, ?_⟩
   ·simp -implicitDefEqProofs [x655L1, addBaseT, TP.at, hsr, hsn, hlt, hget, hld, e1]
   ·simp -implicitDefEqProofs [addBaseT, TP.at, hsr, hsn]
  ·refine ⟨⟨4, addEnvT (.slice row off l.length cap) l.length ((i : Int) + 1), addBaseT sA t out (.osl 4 0 1 out.length none) ++ [.rich (ptrsT t out), .rich [.imm (.val (.int .u8 v.k)), int64 v.n]]⟩, ?_, ?_⟩
   ·simp -implicitDefEqProofs [x655L1, addBaseT, TP.at, hsr, hsn, hlt, hget, hld, e1]
   ·simp -implicitDefEqProofs [addBaseT, TP.at, hsr, hsn]
  ·refine ⟨⟨5, addEnvT (.slice row off l.length cap) l.length ((i : Int) + 1), addBaseT sA t out (.osl 4 0 1 out.length none) ++ [.rich (ptrsT t out), .rich [.imm (.val (.int .u8 v.k)), int64 v.n]]⟩, ?_, ?_⟩
   ·simp -implicitDefEqProofs [x655L1, addBaseT, TP.at, hsr, hsn, hlt, hget, hld, e1]
   ·simp -implicitDefEqProofs [addBaseT, TP.at, hsr, hsn]
  ·refine ⟨⟨5, addEnvT (.slice row off l.length cap) l.length ((i : Int) + 1), addBaseT sA t out (.osl 5 0 1 out.length none) ++ [.dead, .rich (ptrsT t out), .rich [.imm (.val (.int .u8 v.k)), int64 v.n]]⟩, ?_, ?_⟩
   ·simp -implicitDefEqProofs [x655L1, addBaseT, TP.at, hsr, hsn, hlt, hget, hld, e1]
   ·simp -implicitDefEqProofs [addBaseT, TP.at, hsr, hsn]
 ·rw [hq, leadT] at hld
  rcases zej t q out 0 with ⟨h1, _⟩ | ⟨_, j, hf, hj⟩
  ·exact absurd hm h1
  simp only [Nat.zero_add] at hf
  simp only [TP.at] at hld hf hj
  rcases hk with ⟨rfl, ⟨rfl, rfl, rfl⟩ | ⟨rfl, rfl⟩⟩ | ⟨rfl, ⟨rfl, rfl⟩ | ⟨rfl, rfl⟩⟩
  ·cases hm
  ·refine ⟨⟨4, addEnvT (.slice row off l.length cap) l.length ((i : Int) + 1), addBaseT sA t out (.osl 4 0 1 out.length none) ++ [.rich (ptrsT t out), .rich [.imm (.val (.int .u8 v.k)), int64 v.n]]⟩, ?_, ?_⟩
   ·simp -implicitDefEqProofs [x655L1, addBaseT, TP.at, hsr, hsn, hlt, hget, hld, e1, hf, hj]
   ·simp -implicitDefEqProofs [addBaseT, TP.at, hsr, hsn]
  ·refine ⟨⟨5, addEnvT (.slice row off l.length cap) l.length ((i : Int) + 1), addBaseT sA t out (.osl 4 0 1 out.length none) ++ [.rich (ptrsT t out), .rich [.imm (.val (.int .u8 v.k)), int64 v.n]]⟩, ?_, ?_⟩
   ·simp -implicitDefEqProofs [x655L1, addBaseT, TP.at, hsr, hsn, hlt, hget, hld, e1, hf, hj]
   ·simp -implicitDefEqProofs [addBaseT, TP.at, hsr, hsn]
  ·refine ⟨⟨5, addEnvT (.slice row off l.length cap) l.length ((i : Int) + 1), addBaseT sA t out (.osl 5 0 1 out.length none) ++ [.dead, .rich (ptrsT t out), .rich [.imm (.val (.int .u8 v.k)), int64 v.n]]⟩, ?_, ?_⟩
   ·simp -implicitDefEqProofs [x655L1, addBaseT, TP.at, hsr, hsn, hlt, hget, hld, e1, hf, hj]
   ·simp -implicitDefEqProofs [addBaseT, TP.at, hsr, hsn]
theorem zai {sA : AV} {t : TP} {T : List Obj} (hT : StoreT code ext sA t T) (row : List IV) (off : Nat) (cap : Option Nat) (l : List Val) (hl : Reads tVal (.slice row off l.length cap) l) (out : List Nat) (hbo : out.length ≤ 1048576) (i : Nat) (v : Val) (hv : l[i]? = some v)
  (q : Nat) (hq : leadsOf T v = some q) (hm : q ∉ out) (k : Nat) (o : AV) (tail : Mem) (hk : (k = 4 ∧ ((out = [] ∧ o = nilS ∧ tail = []) ∨ (o = .osl 4 0 1 out.length none ∧ tail = [.rich (ptrsT t out)]))) ∨ (k = 5 ∧ ((o = .osl 4 0 1 out.length none ∧ tail = [.rich (ptrsT t out)]) ∨ (o = .osl 5 0 1 out.length none ∧ tail = [.dead, .rich (ptrsT t out)])))) :
  ∃ s', den code ext x655L1 ⟨k, addEnvT (.slice row off l.length cap) l.length i, addBaseT sA t out o ++ tail⟩ = some (.normal, s') ∧
   s'.tidy [1, 2, 3, 8, 9, 10] = ⟨k, addEnvT (.slice row off l.length cap) l.length ((i : Int) + 1), addBaseT sA t (out ++ [q]) (.osl k 0 1 (out.length + 1) none) ++ (if k = 4 then [] else [.dead]) ++ [.rich (ptrsT t (out ++ [q]))]⟩ := by
 have hlt := (List.getElem?_eq_some_iff.1 hv).1
 obtain ⟨row', off', cap', he, hc, hcut, hget⟩ := zld hl hv
 cases he
 simp only [tVal] at hget
 have hb2 := hl.2.1
 have hw := (hl.1 v (List.mem_of_getElem? hv)).2
 have e1 : IntKind.wrap .i64 ((i : Int) + 1) = (i : Int) + 1 := wrapI64 (by omega) (by omega)
 have hld := hT.lead v hw
 have hsr := hT.refs
 have hsn := hT.ren
 rw [hq, leadT] at hld
 rcases zej t q out 0 with ⟨_, hf⟩ | ⟨h1, _⟩
 case inr => exact absurd h1 hm
 have hcp := zci t out
 have hs1 := zm9 t q out
 have hs2 := zkp t q out
 have hbd : (out.length + 1) * 8 ≤ 140737488355328 := by omega
 have h0 : seenT t [] = [] := rfl
 have h0' : [(t.at q, avb true)] = seenT t [q] := rfl
 have h0'' : [t.at q] = ptrsT t [q] := rfl
 have hf0 : ∀ (m : Mem) (x : AV), findK m 3 x [] 0 = some none := fun _ _ => rfl
 simp only [TP.at] at hld hf hs1 hs2 h0' h0''
 rcases hk with ⟨rfl, ⟨rfl, rfl, rfl⟩ | ⟨rfl, rfl⟩⟩ | ⟨rfl, ⟨rfl, rfl⟩ | ⟨rfl, rfl⟩⟩
 ·refine ⟨⟨4, addEnvT (.slice row off l.length cap) l.length ((i : Int) + 1), addBaseT sA t [q] (.osl 6 0 1 1 none) ++ [.rich [.imm (.val (.int .u8 v.k)), int64 v.n], .rich [t.at q], .rich [t.at q]]⟩, ?_, ?_⟩
  ·simp -implicitDefEqProofs [x655L1, addBaseT, TP.at, hsr, hsn, hlt, hget, hld, e1, h0, hf0, exAppendX, exAppend, exAppendR, elems, elemsR, h0']
  ·simp -implicitDefEqProofs [addBaseT, TP.at, hsr, hsn, ptrsT]
 ·refine ⟨⟨4, addEnvT (.slice row off l.length cap) l.length ((i : Int) + 1), addBaseT sA t (out ++ [q]) (.osl 7 0 1 (out.length + 1) none) ++ [.dead, .rich [.imm (.val (.int .u8 v.k)), int64 v.n], .rich [t.at q], .rich (ptrsT t (out ++ [q]))]⟩, ?_, ?_⟩
  ·simp -implicitDefEqProofs [x655L1, addBaseT, TP.at, hsr, hsn, hlt, hget, hld, e1, hf, hs1, hs2, hcp, hbd, exAppendX, exAppend, exAppendR, elems, elemsR]
  ·simp -implicitDefEqProofs [addBaseT, TP.at, hsr, hsn]
 ·refine ⟨⟨5, addEnvT (.slice row off l.length cap) l.length ((i : Int) + 1), addBaseT sA t (out ++ [q]) (.osl 7 0 1 (out.length + 1) none) ++ [.dead, .rich [.imm (.val (.int .u8 v.k)), int64 v.n], .rich [t.at q], .rich (ptrsT t (out ++ [q]))]⟩, ?_, ?_⟩
  ·simp -implicitDefEqProofs [x655L1, addBaseT, TP.at, hsr, hsn, hlt, hget, hld, e1, hf, hs1, hs2, hcp, hbd, exAppendX, exAppend, exAppendR, elems, elemsR]
  ·simp -implicitDefEqProofs [addBaseT, TP.at, hsr, hsn]
 ·refine ⟨⟨5, addEnvT (.slice row off l.length cap) l.length ((i : Int) + 1), addBaseT sA t (out ++ [q]) (.osl 8 0 1 (out.length + 1) none) ++ [.dead, .dead, .rich [.imm (.val (.int .u8 v.k)), int64 v.n], .rich [t.at q], .rich (ptrsT t (out ++ [q]))]⟩, ?_, ?_⟩
  ·simp -implicitDefEqProofs [x655L1, addBaseT, TP.at, hsr, hsn, hlt, hget, hld, e1, hf, hs1, hs2, hcp, hbd, exAppendX, exAppend, exAppendR, elems, elemsR]
  ·simp -implicitDefEqProofs [addBaseT, TP.at, hsr, hsn]
end
end Go.EX


set_option linter.unusedVariables false
set_option linter.unusedSimpArgs false
namespace Go.EX
section
variable {code : Nat → Option XFun} {ext : Calls'}
def AddShapeT (t : TP) (k : Nat) (out : List Nat) (o : AV) (tail : Mem) : Prop :=
 (k = 4 ∧ ((out = [] ∧ o = nilS ∧ tail = []) ∨ (o = .osl 4 0 1 out.length none ∧ tail = [.rich (ptrsT t out)]))) ∨ (k = 5 ∧ ((o = .osl 4 0 1 out.length none ∧ tail = [.rich (ptrsT t out)]) ∨ (o = .osl 5 0 1 out.length none ∧ tail = [.dead, .rich (ptrsT t out)])))
theorem znt (n : Nat) (out : List Nat) (h : out.Nodup) (hl : ∀ k ∈ out, k < n) : out.length ≤ n := by
 have hp : out.Perm ((List.range n).filter fun k => decide (k ∈ out)) := (List.perm_ext_iff_of_nodup h (List.nodup_range.filter _)).2 fun k => by
  rw [List.mem_filter, List.mem_range]
  exact ⟨fun hk => ⟨hl k hk, by simpa using hk⟩, fun hk => by simpa using hk.2⟩
 rw [hp.length_eq]
 exact Nat.le_trans (List.length_filter_le _ _) (by simp)
theorem zah {sA : AV} {t : TP} {T : List Obj} (hT : StoreT code ext sA t T) (hb : T.length ≤ 1048576) (lv : IV) (l : List Val) (hl : Reads tVal lv l) (k : Nat) (out : List Nat) (o : AV) (tail : Mem) (hsh : AddShapeT t k out o tail) (hnd : out.Nodup) (hlt : ∀ q ∈ out, q < T.length) {s : St}
  (hst : s.tidy [1, 2, 3, 8, 9, 10] = ⟨k, addEnvT lv l.length 0, addBaseT sA t out o ++ tail⟩) :
  ∃ e s', den code ext (.loop [1, 2, 3, 8, 9, 10] x655L1) s = some (e, s') ∧ e ≠ .normal ∧
   (e = .exit 0 ∧ ∃ o' tail', AddShapeT t k (addAll T out l) o' tail' ∧ (addAll T out l = out → o' = o ∧ tail' = tail) ∧ (addAll T out l ≠ out → o' = .osl k 0 1 (addAll T out l).length none) ∧
    s' = ⟨k, addEnvT lv l.length l.length ++ [(11, avb false)], addBaseT sA t (addAll T out l) o' ++ tail'⟩) := by
 refine zhb (fun n s => ∃ (i : Nat) (out1 : List Nat) (o1 : AV) (tail1 : Mem), i + n = l.length ∧ addAll T out l = addAll T out1 (l.drop i) ∧ AddShapeT t k out1 o1 tail1 ∧ out1.Nodup ∧ (∀ q ∈ out1, q < T.length) ∧
  (∃ r, out1 = out ++ r ∧ (r = [] → o1 = o ∧ tail1 = tail) ∧ (r ≠ [] → o1 = .osl k 0 1 out1.length none)) ∧ s.tidy [1, 2, 3, 8, 9, 10] = ⟨k, addEnvT lv l.length i, addBaseT sA t out1 o1 ++ tail1⟩) _ ?_ l.length _ ⟨0, out, o, tail, by simp, by simp, hsh, hnd, hlt, ⟨[], by simp, fun _ => ⟨rfl, rfl⟩, fun h => absurd rfl h⟩, hst⟩
 clear hst hsh hnd hlt s
 rintro n s ⟨i, out1, o1, tail1, hi, ha, hsh, hnd, hlt, ⟨r, hr, hr1, hr2⟩, hst⟩
 rw [hst]
 by_cases hil : i < l.length
 ·have hv := List.getElem?_eq_getElem hil
  rw [List.drop_eq_getElem_cons hil, addAll] at ha
  obtain ⟨row, off, cap, rfl, _, _, _⟩ := zld hl hv
  generalize l[i] = v at hv ha
  cases hq : leadsOf T v with
  | none =>
   rw [hq] at ha
   obtain ⟨s', g1, g2⟩ := zaj (code := code) (ext := ext) hT row off cap l hl out1 i v hv (.inl hq) k o1 tail1 hsh
   exact ⟨.normal, s', g1, .inl ⟨rfl, n - 1, by omega, i + 1, out1, o1, tail1, by omega, ha, hsh, hnd, hlt, ⟨r, hr, hr1, hr2⟩, by rw [g2]; rfl⟩⟩
  | some q =>
   rw [hq] at ha
   by_cases hm : q ∈ out1
   ·dsimp only at ha
    rw [if_pos hm] at ha
    obtain ⟨s', g1, g2⟩ := zaj (code := code) (ext := ext) hT row off cap l hl out1 i v hv (.inr ⟨q, hq, hm⟩) k o1 tail1 hsh
    exact ⟨.normal, s', g1, .inl ⟨rfl, n - 1, by omega, i + 1, out1, o1, tail1, by omega, ha, hsh, hnd, hlt, ⟨r, hr, hr1, hr2⟩, by rw [g2]; rfl⟩⟩
   ·dsimp only at ha
    rw [if_neg hm] at ha
    have hlen := znt T.length out1 hnd hlt
    obtain ⟨s', g1, g2⟩ := zai (code := code) (ext := ext) hT row off cap l hl out1 (by omega) i v hv q hq hm k o1 tail1 hsh
    refine ⟨.normal, s', g1, .inl ⟨rfl, n - 1, by omega, i + 1, out1 ++ [q], .osl k 0 1 (out1.length + 1) none, (if k = 4 then [] else [.dead]) ++ [.rich (ptrsT t (out1 ++ [q]))], by omega, ha, ?_, ?_, ?_, ⟨r ++ [q], by rw [hr]; simp, fun h => by simp at h, fun _ => by simp⟩, by rw [g2, List.append_assoc]; rfl⟩⟩
    ·rcases hsh with ⟨rfl, _⟩ | ⟨rfl, _⟩
     ·exact .inl ⟨rfl, .inr ⟨by simp, by simp⟩⟩
     ·exact .inr ⟨rfl, .inr ⟨by simp, by simp⟩⟩
    ·rw [List.nodup_append]
     exact ⟨hnd, by simp, fun a ha' b hb' => by simp at hb'; subst hb'; exact fun e => hm (e ▸ ha')⟩
    ·intro p hp
     rw [List.mem_append, List.mem_singleton] at hp
     rcases hp with hp | rfl
     ·exact hlt p hp
     ·exact (zgt hq).1
 ·have : i = l.length := by omega
  subst this
  rw [List.drop_eq_nil_of_le (Nat.le_refl _), addAll] at ha
  refine ⟨.exit 0, ⟨k, addEnvT lv l.length l.length ++ [(11, avb false)], addBaseT sA t (addAll T out l) o1 ++ tail1⟩, ?_, .inr ⟨by simp, rfl, o1, tail1, by rw [ha]; exact hsh, fun he => hr1 ?_, fun he => ?_, rfl⟩⟩
  ·rw [ha]
   simp -implicitDefEqProofs [x655L1]
  ·rw [ha, hr] at he
   simpa using he
  ·rw [ha]
   refine hr2 fun e => he ?_
   rw [ha, hr, e]; simp
theorem zak {sA : AV} {t : TP} {T : List Obj} (hT : StoreT code ext sA t T) (h' : code 655 = some x655) (hb : T.length ≤ 1048576) (lv : IV) (l : List Val) (hl : Reads tVal lv l) (k : Nat) (out : List Nat) (o : AV) (tail : Mem) (hsh : AddShapeT t k out o tail) (hk : (addBaseT sA t out o ++ tail).length = k) (hnd : out.Nodup) (hlt : ∀ q ∈ out, q < T.length) :
  ∃ o' tail', AddShapeT t k (addAll T out l) o' tail' ∧ (addAll T out l = out → o' = o ∧ tail' = tail) ∧ (addAll T out l ≠ out → o' = .osl k 0 1 (addAll T out l).length none) ∧
   callW code ext 655 [.imm lv, .optr 0 0, .optr 1 0, .optr 2 0] (addBaseT sA t out o ++ tail) = some (.tup [], addBaseT sA t (addAll T out l) o' ++ tail') := by
 have hlen := zlc hl
 have hsr := hT.refs
 have hsn := hT.ren
 obtain ⟨e, s', h1, _, rfl, o', tail', g1, g2, g3, rfl⟩ := zah (code := code) (ext := ext) hT hb lv l hl k out o tail hsh hnd hlt (s := ⟨k, addEnvT lv l.length 0, addBaseT sA t out o ++ tail⟩) (by
  rcases hsh with ⟨rfl, ⟨rfl, rfl, rfl⟩ | ⟨rfl, rfl⟩⟩ | ⟨rfl, ⟨rfl, rfl⟩ | ⟨rfl, rfl⟩⟩ <;> simp -implicitDefEqProofs [addBaseT, hsr, hsn])
 refine ⟨o', tail', g1, g2, g3, ?_⟩
 rw [zbk code ext h', hk]
 generalize hM : addBaseT sA t out o ++ tail = M at h1 ⊢
 generalize hout : addAll T out l = out' at *
 clear hsh g2 g3 hk hM
 rcases g1 with ⟨rfl, ⟨rfl, rfl, rfl⟩ | ⟨rfl, rfl⟩⟩ | ⟨rfl, ⟨rfl, rfl⟩ | ⟨rfl, rfl⟩⟩
 ·simp -implicitDefEqProofs [x655, hlen, h1, addBaseT, hsr, hsn]
 ·simp -implicitDefEqProofs [x655, hlen, h1, addBaseT, hsr, hsn]
 ·simp -implicitDefEqProofs [x655, hlen, h1, addBaseT, hsr, hsn]
 ·simp -implicitDefEqProofs [x655, hlen, h1, addBaseT, hsr, hsn]
end
end Go.EX


set_option linter.unusedVariables false
set_option linter.unusedSimpArgs false
namespace Go.EX
theorem zbs (n : Nat) : AV.cells (.omap n) = some [.omap n] := rfl
theorem zbu (i o z l : Nat) (c : Option Nat) : AV.cells (.osl i o z l c) = some [.osl i o z l c] := rfl
theorem zbr (x : IV) : AV.cells (.imm x) = some [.imm x] := rfl
section
variable {code : Nat → Option XFun} {ext : Calls'}
end
end Go.EX


set_option linter.unusedVariables false
set_option linter.unusedSimpArgs false
namespace Go.EX
theorem zbt (i o : Nat) : AV.cells (.optr i o) = some [.optr i o] := rfl
theorem zbq (l : List AV) : AV.cells (.agg l) = some l := rfl
theorem zbv (b a : Nat) (x : IV) : AV.cells (.tag b a x) = some [.tag b a x] := rfl
def valOf (S : List Obj) (v : Val) : Bool := if v.k = 0 then decide (v.n = 0) else if v.k = 1 then decide (v.n = 0 ∨ v.n = 1) else if v.k = 2 then true else (leadsOf S v).isSome
def heldOf (S : List Obj) (l : List Val) (c : Bool) : Bool := l.all fun v => valOf S v && (decide (v.k = 7) == c)
def sAt (S : List Obj) (i : Nat) : ByteArray := match S[i]? with
 | some o => o.s
 | none => .empty
def sameOf (S : List Obj) (a b : Val) : Bool :=
 if a.k ≠ b.k then false else if a.k = 0 then true else if a.n = b.n then true else if a.k = 3 then
  match leadsOf S a, leadsOf S b with
  | some i, some j => decide (sAt S i = sAt S j)
  | _, _ => false
 else false
def KeysOk (S : List Obj) (l : List Val) : Prop := ∀ (i k : Nat) (a b : Val), i % 2 = 0 → k % 2 = 0 → k < i → l[i]? = some a → l[k]? = some b → sameOf S a b = false
def ObjOk (S : List Obj) (o : Obj) : Prop :=
 if o.k = 3 then o.s.size ≤ 4096 ∧ o.l.xs = [] ∧ o.room = 0 ∧ o.fn = 0
 else if o.k = 4 then o.s = .empty ∧ o.fn = 0 ∧ (o.l.xs.length : Int) ≤ 65536 ∧ (o.l.xs.length : Int) ≤ o.room ∧ o.room ≤ 262144 ∧ heldOf S o.l.xs false = true
 else if o.k = 5 then o.s = .empty ∧ o.fn = 0 ∧ (o.l.xs.length : Int).tmod 2 = 0 ∧ (o.l.xs.length : Int) ≤ 131072 ∧ (o.l.xs.length : Int) ≤ o.room ∧ o.room ≤ 262144 ∧ heldOf S o.l.xs false = true ∧ KeysOk S o.l.xs
 else if o.k = 6 then o.s = .empty ∧ o.room = 0 ∧ 0 ≤ o.fn ∧ o.fn < 256 ∧ heldOf S o.l.xs true = true
 else o.s = .empty ∧ o.room = 0 ∧ o.fn = 0 ∧ (o.l.xs.length : Int) = 1 ∧ heldOf S o.l.xs false = true
def CheckOk (S : List Obj) (v : Val) : Prop := valOf S v = true ∧ ∀ (k : Nat) (o : Obj), Reach S [v] k → S[k]? = some o → ObjOk S o
def badOf (T : List Obj) (o : Obj) (v : Val) : Bool := !valOf T v || (decide (v.k = 7) != decide (o.k = 6))
theorem zaq (T : List Obj) (o : Obj) (l : List Val) : l.any (badOf T o) = !heldOf T l (decide (o.k = 6)) := by
 unfold heldOf
 induction l with
 | nil => rfl
 | cons v l ih =>
  rw [List.any_cons, List.all_cons, ih, Bool.not_and]
  congr 1
  unfold badOf
  cases valOf T v <;> cases decide (v.k = 7) <;> cases decide (o.k = 6) <;> rfl
def normOf (T : List Obj) (v : Val) : Int × Int × ByteArray :=
 if v.k = 3 then match leadsOf T v with
  | some i => (3, 0, sAt T i)
  | none => (v.k, v.n, .empty)
 else (v.k, v.n, .empty)
def keyAV (x : Int × Int × ByteArray) : AV := .agg [.imm (.val (.int .u8 x.1)), int64 x.2.1, .imm (.val (.string x.2.2))]
def normMap (acc : List (Int × Int × ByteArray)) : List (AV × AV) := acc.map fun x => (keyAV x, avb true)
open Classical in
noncomputable def addNorm (acc : List (Int × Int × ByteArray)) (x : Int × Int × ByteArray) : List (Int × Int × ByteArray) := if x ∈ acc then acc else acc ++ [x]
@[simp] theorem refs_norm1 (acc : List (Int × Int × ByteArray)) : AV.refs.refsL (List.map (fun x => x.1) (normMap acc)) = [] := by
 unfold normMap
 induction acc with
 | nil => rfl
 | cons x r ih =>
  have hk : (keyAV x).refs = [] := rfl
  simp only [List.map_cons, AV.refs.refsL, ih, hk, List.append_nil]
@[simp] theorem refs_norm2 (acc : List (Int × Int × ByteArray)) : AV.refs.refsL (List.map (fun x => x.2) (normMap acc)) = [] := by
 unfold normMap
 induction acc with
 | nil => rfl
 | cons x r ih => simp only [List.map_cons, AV.refs.refsL, ih, AV.refs]; rfl
@[simp] theorem norm_ren (f : Nat → Option Nat) (acc : List (Int × Int × ByteArray)) : List.map (fun p => (AV.ren f p.1, AV.ren f p.2)) (normMap acc) = normMap acc := by
 simp [normMap, keyAV, AV.ren, AV.ren.renL]
theorem key57 (x : Int × Int × ByteArray) : isKeyAV 57 (keyAV x) = true := by
 have e : isKeyAV 57 (keyAV x) = (sameCells [0, 0, 2] [.imm (.val (.int .u8 x.1)), int64 x.2.1, .imm (.val (.string x.2.2))] [.imm (.val (.int .u8 x.1)), int64 x.2.1, .imm (.val (.string x.2.2))]).isSome := rfl
 rw [e]; simp [sameCells]
theorem zbe (a b : ByteArray) : (a == b) = decide (a = b) := by rw [Go.beq_toListBytes, bytes_beq]
theorem keyEq57 (m : Mem) (x y : Int × Int × ByteArray) : keyEq m 57 (keyAV x) (keyAV y) = some (decide (x = y)) := by
 obtain ⟨a, b, c⟩ := x
 obtain ⟨a', b', c'⟩ := y
 have e : keyEq m 57 (keyAV (a, b, c)) (keyAV (a', b', c')) = sameCells [0, 0, 2] [.imm (.val (.int .u8 a)), int64 b, .imm (.val (.string c))] [.imm (.val (.int .u8 a')), int64 b', .imm (.val (.string c'))] := rfl
 rw [e]
 simp only [sameCells, if_true, Option.map_some, Bool.and_true, Option.some.injEq, zbe]
 by_cases h1 : a = a' <;> by_cases h2 : b = b' <;> by_cases h3 : c = c' <;> simp [h1, h2, h3]
theorem findK57 (x : Int × Int × ByteArray) : ∀ (acc : List (Int × Int × ByteArray)) (i : Nat),
  (x ∉ acc ∧ ∀ m, findK m 57 (keyAV x) (normMap acc) i = some none) ∨ (x ∈ acc ∧ ∃ j, (∀ m, findK m 57 (keyAV x) (normMap acc) i = some (some (i + j))) ∧ acc[j]? = some x)
 | [], i => .inl ⟨by simp, fun _ => rfl⟩
 | y :: r, i => by
  have hk := fun m => keyEq57 m x y
  by_cases h : x = y
  ·subst h
   refine .inr ⟨by simp, 0, fun m => ?_, rfl⟩
   simp only [normMap, List.map_cons, findK, hk, decide_true, Nat.add_zero]
  ·have hf : ∀ m, findK m 57 (keyAV x) (normMap (y :: r)) i = findK m 57 (keyAV x) (normMap r) (i + 1) := fun m => by simp only [normMap, List.map_cons, findK, hk, h, decide_false]
   rcases findK57 x r (i + 1) with ⟨h1, h2⟩ | ⟨h1, j, h2, h3⟩
   ·exact .inl ⟨by simp [h, h1], fun m => by rw [hf, h2]⟩
   ·refine .inr ⟨by simp [h1], j + 1, fun m => ?_, h3⟩
    rw [hf, h2]; congr 2; omega
theorem zis (acc : List (Int × Int × ByteArray)) (j : Nat) (x : Int × Int × ByteArray) (h : acc[j]? = some x) : (normMap acc).set j (keyAV x, avb true) = normMap acc := by
 refine List.ext_getElem? fun i => ?_
 rw [List.getElem?_set]
 split
 ·rename_i hij; subst hij
  split
  ·simp [normMap, h]
  ·rename_i hl
   rw [List.getElem?_eq_none (by omega)]
 ·rfl
theorem zit (acc : List (Int × Int × ByteArray)) (x : Int × Int × ByteArray) : normMap acc ++ [(keyAV x, avb true)] = normMap (acc ++ [x]) := by simp [normMap]
section
noncomputable def normsTo (T : List Obj) (l : List Val) : Nat → List (Int × Int × ByteArray)
 | 0 => []
 | i + 1 => if i % 2 = 0 then (match l[i]? with | some v => addNorm (normsTo T l i) (normOf T v) | none => normsTo T l i) else normsTo T l i
theorem ziu (T : List Obj) (l : List Val) (i : Nat) (v : Val) (hi : i % 2 = 0) (hv : l[i]? = some v) : normsTo T l (i + 2) = addNorm (normsTo T l i) (normOf T v) := by
 rw [normsTo, if_neg (by omega), normsTo, if_pos hi, hv]
end
theorem zio (acc : List (Int × Int × ByteArray)) : (normMap acc).length = acc.length := by simp [normMap]
theorem ziq (T : List Obj) (v : Val) : (normOf T v).1 = v.k := by
 unfold normOf
 split
 ·split
  ·simp_all
  ·rfl
 ·rfl
theorem zir (T : List Obj) (a b : Val) (ha : valOf T a = true) (hb : valOf T b = true) : normOf T a = normOf T b ↔ sameOf T a b = true := by
 unfold normOf sameOf
 by_cases hk : a.k = b.k
 ·rw [if_neg (show ¬ (a.k ≠ b.k) from fun c => c hk)]
  by_cases h0 : a.k = 0
  ·have hb0 : b.k = 0 := by omega
   unfold valOf at ha hb
   rw [if_pos h0] at ha
   rw [if_pos hb0] at hb
   simp at ha hb
   simp [h0, hb0, ha, hb]
  ·rw [if_neg h0]
   by_cases h3 : a.k = 3
   ·have hb3 : b.k = 3 := by omega
    rw [if_pos h3, if_pos hb3, if_pos h3]
    have ga : (leadsOf T a).isSome = true := by
     unfold valOf at ha
     rw [if_neg (by omega), if_neg (by omega), if_neg (by omega)] at ha; exact ha
    have gb : (leadsOf T b).isSome = true := by
     unfold valOf at hb
     rw [if_neg (by omega), if_neg (by omega), if_neg (by omega)] at hb; exact hb
    obtain ⟨i, hi⟩ := Option.isSome_iff_exists.1 ga
    obtain ⟨j, hj⟩ := Option.isSome_iff_exists.1 gb
    rw [hi, hj]
    by_cases hn : a.n = b.n
    ·rw [if_pos hn]
     have hij : i = j := by
      have h1 := (zgt hi).2.1
      have h2 := (zgt hj).2.1
      omega
     subst hij; simp
    ·rw [if_neg hn]; simp
   ·have hb3 : ¬ b.k = 3 := by omega
    rw [if_neg h3, if_neg hb3, if_neg h3]
    by_cases hn : a.n = b.n
    ·simp [hn, hk]
    ·simp [hn]
 ·rw [if_pos hk]
  refine ⟨fun h => ?_, fun h => by cases h⟩
  have h1 := ziq T a
  have h2 := ziq T b
  unfold normOf at h1 h2
  rw [h, h2] at h1
  exact absurd h1.symm hk
theorem ziw (T : List Obj) (l : List Val) : ∀ (j : Nat), 2 * j ≤ l.length → ∀ x, x ∈ normsTo T l (2 * j) ↔ ∃ p v, p < j ∧ l[2 * p]? = some v ∧ normOf T v = x
 | 0, _, x => by
  refine ⟨fun h => by simp [normsTo] at h, ?_⟩
  rintro ⟨p, v, h, _⟩; omega
 | j + 1, hj, x => by
  have hlt : 2 * j < l.length := by omega
  have ih := ziw T l j (by omega) x
  have hg := List.getElem?_eq_getElem hlt
  have e := ziu T l (2 * j) l[2 * j] (by omega) hg
  have e' : 2 * (j + 1) = 2 * j + 2 := by omega
  rw [e', e]
  have hadd : x ∈ addNorm (normsTo T l (2 * j)) (normOf T l[2 * j]) ↔ x ∈ normsTo T l (2 * j) ∨ normOf T l[2 * j] = x := by
   unfold addNorm
   split
   ·rename_i hm
    refine ⟨.inl, ?_⟩
    rintro (h | h)
    ·exact h
    ·rw [← h]; exact hm
   ·simp [eq_comm]
  rw [hadd, ih]
  constructor
  ·rintro (⟨p, v, h1, h2, h3⟩ | h)
   ·exact ⟨p, v, by omega, h2, h3⟩
   ·exact ⟨j, _, by omega, hg, h⟩
  ·rintro ⟨p, v, h1, h2, h3⟩
   by_cases hp : p = j
   ·subst hp; rw [hg] at h2; cases h2; exact .inr h3
   ·exact .inl ⟨p, v, by omega, h2, h3⟩
theorem ziv (T : List Obj) (l : List Val) : ∀ (j : Nat), 2 * j ≤ l.length → (normsTo T l (2 * j)).length ≤ j ∧
  ((normsTo T l (2 * j)).length = j ↔ ∀ (p q : Nat) (a b : Val), q < p → p < j → l[2 * p]? = some a → l[2 * q]? = some b → normOf T a ≠ normOf T b)
 | 0, _ => by
  refine ⟨by simp [normsTo], fun _ p q a b h1 h2 => by omega, fun _ => by simp [normsTo]⟩
 | j + 1, hj => by
  have hlt : 2 * j < l.length := by omega
  obtain ⟨ih1, ih2⟩ := ziv T l j (by omega)
  have hm := ziw T l j (by omega) (normOf T l[2 * j])
  have hg := List.getElem?_eq_getElem hlt
  have e := ziu T l (2 * j) l[2 * j] (by omega) hg
  have e' : 2 * (j + 1) = 2 * j + 2 := by omega
  rw [e', e]
  unfold addNorm
  split
  ·rename_i hx
   refine ⟨by omega, fun h => by omega, fun h => ?_⟩
   obtain ⟨p, v, h1, h2, h3⟩ := hm.1 hx
   exact absurd h3.symm (h j p _ v h1 (by omega) hg h2)
  ·rename_i hx
   refine ⟨by simp; omega, ?_⟩
   rw [List.length_append, List.length_singleton]
   constructor
   ·intro h p q a b h1 h2 h3 h4
    by_cases hp : p = j
    ·subst hp
     rw [hg] at h3; cases h3
     intro hc
     exact hx (hm.2 ⟨q, b, h1, h4, hc.symm⟩)
    ·exact ih2.1 (by omega) p q a b h1 (by omega) h3 h4
   ·intro h
    have := ih2.2 fun p q a b h1 h2 h3 h4 => h p q a b h1 (by omega) h3 h4
    omega
theorem zgj (T : List Obj) (l : List Val) (hev : l.length % 2 = 0) (hv : ∀ v ∈ l, valOf T v = true) : (normsTo T l l.length).length = l.length / 2 ↔ KeysOk T l := by
 have hl : l.length = 2 * (l.length / 2) := by omega
 have h := (ziv T l (l.length / 2) (by omega)).2
 rw [← hl] at h
 rw [h]
 unfold KeysOk
 constructor
 ·intro h i k a b hi hk hlt h1 h2
  have ha := hv a (List.mem_of_getElem? h1)
  have hb := hv b (List.mem_of_getElem? h2)
  have hil := (List.getElem?_eq_some_iff.1 h1).1
  have := h (i / 2) (k / 2) a b (by omega) (by omega) (by rw [show 2 * (i / 2) = i by omega]; exact h1) (by rw [show 2 * (k / 2) = k by omega]; exact h2)
  rw [Ne, zir T a b ha hb] at this
  simpa using this
 ·intro h p q a b h1 h2 h3 h4
  have ha := hv a (List.mem_of_getElem? h3)
  have hb := hv b (List.mem_of_getElem? h4)
  rw [Ne, zir T a b ha hb, h (2 * p) (2 * q) a b (by omega) (by omega) (by omega) h3 h4]
  simp
end Go.EX

