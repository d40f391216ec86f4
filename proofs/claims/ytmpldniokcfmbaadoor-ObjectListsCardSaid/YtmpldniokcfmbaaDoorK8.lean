import Derived.Test.YtmpldniokcfmbaaDoorK7
import Derived.RangeFuncRecord
import Derived.LoopNIn
import Derived.Scope
import Derived.Test.YtmpldniokcfmbaaDoorK6
set_option linter.unusedVariables false
set_option linter.unusedSimpArgs false
namespace Go.EX
theorem za5 {s : St} {sz bytes : Nat} {a x r : AV} {s' : St} (h : exAppend s sz bytes a x = some (r, s')) :
  ∃ f : Nat → Option Nat, s'.env = s.env.ren f ∧ s'.k = s.k ∧ ∀ e : Env, exAppend { s with env := e } sz bytes a x = some (r, { s' with env := e.ren f }) := by
 unfold exAppend at h
 cases hel : elems s.mem sz x with
 | none => simp [hel] at h
 | some nn =>
  obtain ⟨n, news⟩ := nn
  simp only [hel] at h
  split at h
  ·split at h
   ·cases h
    refine ⟨some, (zdx _).symm, rfl, fun e => ?_⟩
    simp [exAppend, hel, zdx, *]
   ·split at h
    ·simp only [fresh, Option.some.injEq, Prod.mk.injEq] at h
     obtain ⟨rfl, rfl⟩ := h
     refine ⟨some, (zdx _).symm, rfl, fun e => ?_⟩
     simp [exAppend, hel, zdx, fresh, *]
    ·cases h
  ·split at h
   ·cases h
    refine ⟨some, (zdx _).symm, rfl, fun e => ?_⟩
    simp [exAppend, hel, zdx, *]
   ·split at h
    ·cases h
    ·split at h
     ·split at h
      ·simp only [fresh, Option.some.injEq, Prod.mk.injEq] at h
       obtain ⟨rfl, rfl⟩ := h
       refine ⟨some, (zdx _).symm, rfl, fun e => ?_⟩
       simp [exAppend, hel, zdx, fresh, *]
      ·cases h
     ·cases h
  ·split at h
   ·split at h
    ·split at h
     ·split at h
      ·simp only [Option.some.injEq, Prod.mk.injEq] at h
       obtain ⟨rfl, rfl⟩ := h
       refine ⟨some, (zdx _).symm, rfl, fun e => ?_⟩
       simp [exAppend, hel, zdx, fresh, *]
      ·cases h
     ·split at h
      ·split at h
       ·simp only [fresh, Option.some.injEq, Prod.mk.injEq] at h
        obtain ⟨rfl, rfl⟩ := h
        refine ⟨some, (zdx _).symm, rfl, fun e => ?_⟩
        simp [exAppend, hel, zdx, fresh, *]
       ·cases h
      ·cases h
    ·cases h
   ·cases h
  ·split at h
   ·split at h
    ·split at h
     ·split at h
      ·simp only [Option.some.injEq, Prod.mk.injEq] at h
       obtain ⟨rfl, rfl⟩ := h
       rw [zoe]
       refine ⟨hide _, rfl, rfl, fun e => ?_⟩
       simp [exAppend, hel, zoe, *]
      ·cases h
     ·cases h
    ·cases h
   ·cases h
  ·cases h
theorem za1 {s : St} {sz bytes : Nat} {a x r : AV} {s' : St} (h : exAppendR s sz bytes a x = some (r, s')) :
  ∃ f : Nat → Option Nat, s'.env = s.env.ren f ∧ s'.k = s.k ∧ ∀ e : Env, exAppendR { s with env := e } sz bytes a x = some (r, { s' with env := e.ren f }) := by
 refine ⟨some, ?_⟩
 unfold exAppendR at h
 cases hel : elemsR s.mem sz x with
 | none => simp [hel] at h
 | some nn =>
  obtain ⟨n, news⟩ := nn
  simp only [hel] at h
  split at h
  ·cases h
  ·split at h
   ·split at h
    ·simp only [fresh, Option.some.injEq, Prod.mk.injEq] at h
     obtain ⟨rfl, rfl⟩ := h
     exact ⟨(zdx _).symm, rfl, fun e => by simp [exAppendR, hel, zdx, fresh, *]⟩
    ·cases h
   ·split at h
    ·rename_i hsz
     subst hsz
     split at h
     ·split at h
      ·simp only [Option.some.injEq, Prod.mk.injEq] at h
       obtain ⟨rfl, rfl⟩ := h
       exact ⟨(zdx _).symm, rfl, fun e => by simp [exAppendR, hel, zdx, *]⟩
      ·cases h
     ·cases h
    ·cases h
   ·split at h
    ·rename_i hsz
     obtain ⟨rfl, hroom⟩ := hsz
     split at h
     ·split at h
      ·simp only [Option.some.injEq, Prod.mk.injEq] at h
       obtain ⟨rfl, rfl⟩ := h
       exact ⟨(zdx _).symm, rfl, fun e => by simp [exAppendR, hel, zdx, *]⟩
      ·cases h
     ·cases h
    ·rename_i hno
     split at h
     ·rename_i hsz
      subst hsz
      have hno2 : ¬ _ := fun q => hno ⟨rfl, q⟩
      split at h
      ·split at h
       ·simp only [fresh, Option.some.injEq, Prod.mk.injEq] at h
        obtain ⟨rfl, rfl⟩ := h
        exact ⟨(zdx _).symm, rfl, fun e => by simp [exAppendR, hel, zdx, fresh, *]⟩
       ·cases h
      ·cases h
     ·cases h
   ·cases h
theorem za3 {s : St} {sz bytes : Nat} {a x r : AV} {s' : St} (h : exAppendX s sz bytes a x = some (r, s')) :
  ∃ f : Nat → Option Nat, s'.env = s.env.ren f ∧ s'.k = s.k ∧ ∀ e : Env, exAppendX { s with env := e } sz bytes a x = some (r, { s' with env := e.ren f }) := by
 unfold exAppendX at h
 split at h
 ·rename_i q hq
  cases h
  obtain ⟨f, h1, h2, h3⟩ := za5 hq
  exact ⟨f, h1, h2, fun e => by simp only [exAppendX, h3 e]⟩
 ·rename_i hq
  obtain ⟨f, h1, h2, h3⟩ := za1 h
  refine ⟨f, h1, h2, fun e => ?_⟩
  have hn : exAppend { s with env := e } sz bytes a x = none := by
   cases hc : exAppend { s with env := e } sz bytes a x with
   | none => rfl
   | some q =>
    obtain ⟨q1, q2⟩ := q
    obtain ⟨_, _, _, h4⟩ := za5 hc
    have := h4 s.env
    rw [show ({ ({ s with env := e } : St) with env := s.env } : St) = s from rfl, hq] at this
    cases this
  simp only [exAppendX, hn, h3 e]
theorem za0 {s : St} {sz bytes : Nat} {a x r : AV} {s' : St} (h : exAppendK s sz bytes a x = some (r, s')) :
  ∃ f : Nat → Option Nat, s'.env = s.env.ren f ∧ s'.k = s.k ∧ ∀ e : Env, exAppendK { s with env := e } sz bytes a x = some (r, { s' with env := e.ren f }) := by
 unfold exAppendK at h
 split at h
 ·refine ⟨some, ?_⟩
  split at h
  ·split at h
   ·cases h
   ·split at h
    ·split at h
     ·simp only [Option.some.injEq, Prod.mk.injEq] at h
      obtain ⟨rfl, rfl⟩ := h
      exact ⟨(zdx _).symm, rfl, fun e => by simp [exAppendK, zdx, *]⟩
     ·cases h
    ·split at h
     ·simp only [Option.some.injEq, Prod.mk.injEq] at h
      obtain ⟨rfl, rfl⟩ := h
      exact ⟨(zdx _).symm, rfl, fun e => by simp [exAppendK, zdx, *]⟩
     ·cases h
    ·cases h
  ·cases h
 ·rename_i hno
  obtain ⟨f, h1, h2, h3⟩ := za5 h
  refine ⟨f, h1, h2, fun e => ?_⟩
  unfold exAppendK
  split
  ·exact absurd rfl (hno _ _ _)
  ·exact h3 e
theorem za2 {s : St} {a x r : AV} {s' : St} (h : exAppendS s a x = some (r, s')) :
  ∃ f : Nat → Option Nat, s'.env = s.env.ren f ∧ s'.k = s.k ∧ ∀ e : Env, exAppendS { s with env := e } a x = some (r, { s' with env := e.ren f }) := by
 refine ⟨some, ?_⟩
 unfold exAppendS at h
 split at h
 ·cases h
 ·split at h
  ·split at h
   ·cases h
    exact ⟨(zdx _).symm, rfl, fun e => by simp [exAppendS, zdx, *]⟩
   ·split at h
    ·simp only [fresh, Option.some.injEq, Prod.mk.injEq] at h
     obtain ⟨rfl, rfl⟩ := h
     exact ⟨(zdx _).symm, rfl, fun e => by simp [exAppendS, zdx, fresh, *]⟩
    ·cases h
  ·split at h
   ·split at h
    ·simp only [Option.some.injEq, Prod.mk.injEq] at h
     obtain ⟨rfl, rfl⟩ := h
     exact ⟨(zdx _).symm, rfl, fun e => by simp [exAppendS, zdx, *]⟩
    ·cases h
   ·cases h
  ·cases h
theorem zow {call : Calls'} {s : St} {fn : Nat} {args : List AV} {r : AV} {s' : St} (h : exShare call s fn args = some (r, s')) :
  ∃ f : Nat → Option Nat, s'.env = s.env.ren f ∧ s'.k = s.k ∧ ∀ e : Env, exShare call { s with env := e } fn args = some (r, { s' with env := e.ren f }) := by
 unfold exShare at h
 dsimp only at h
 split at h
 ·cases h
 ·rename_i hok
  split at h
  ·cases h
  ·rename_i rv mc hc
   simp only [Option.some.injEq, Prod.mk.injEq] at h
   obtain ⟨rfl, rfl⟩ := h
   refine ⟨_, rfl, rfl, fun e => ?_⟩
   unfold exShare
   dsimp only
   rw [if_neg hok]
   simp only [hc]
   rfl
theorem zfy {s : St} {x r : AV} {s' : St} (h : exFrz s x = some (r, s')) :
  ∃ f : Nat → Option Nat, s'.env = s.env.ren f ∧ s'.k = s.k ∧ ∀ e : Env, exFrz { s with env := e } x = some (r, { s' with env := e.ren f }) := by
 refine ⟨some, ?_⟩
 unfold exFrz at h
 split at h
 ·cases h
  exact ⟨(zdx _).symm, rfl, fun e => by simp [exFrz, zdx]⟩
 ·split at h
  ·cases h
   exact ⟨(zdx _).symm, rfl, fun e => by simp [exFrz, zdx, *]⟩
  ·split at h
   ·cases h
    exact ⟨(zdx _).symm, rfl, fun e => by simp [exFrz, zdx, *]⟩
   ·cases h
  ·cases h
 ·cases h
theorem st_eq {s t : St} (hm : t.mem = s.mem) (hk : t.k = s.k) : t = { s with env := t.env } := by cases t; cases s; cases hm; cases hk; rfl
theorem zpt {call : Calls'} {x : XOp} (hc : tailOp x = true) {s t : St} (hm : t.mem = s.mem) (hk : t.k = s.k) (he : ∀ n ∈ x.takes, t.env.get n = s.env.get n) {r : AV} {s' : St} (h : exOp call s x = some (r, s')) :
  ∃ f : Nat → Option Nat, s'.env = s.env.ren f ∧ s'.k = s.k ∧ exOp call t x = some (r, { s' with env := t.env.ren f }) := by
 have calm : calmOp x = true → (∀ n ∈ x.reads, t.env.get n = s.env.get n) → ∃ f : Nat → Option Nat, s'.env = s.env.ren f ∧ s'.k = s.k ∧ exOp call t x = some (r, { s' with env := t.env.ren f }) := by
  intro hcalm hr
  obtain ⟨rfl, h2, _⟩ := zbz (K := fun _ => True) hcalm (t := t) ⟨fun _ _ => by rw [hm], fun _ _ _ _ _ _ => trivial⟩ hr (fun _ _ _ _ => trivial) h
  refine ⟨some, (zdx _).symm, rfl, ?_⟩
  rw [h2, zdx, ← st_eq hm hk]
 have e1 : ∀ y, (∀ n ∈ srcTmp y, n ∈ x.takes) → t.env.ev y = s.env.ev y := fun y hy => zd3 fun n hn => he n (hy n hn)
 unfold tailOp at hc
 split at hc
 ·rename_i n a y
  have ha := e1 a (by simp [XOp.takes]; intros; simp [*])
  have hy := e1 y (by simp [XOp.takes]; intros; simp [*])
  refine ⟨some, ?_⟩
  simp only [exOp, ha, hy, hm] at h ⊢
  clear calm e1
  split at h
  ·split at h
   ·simp only [Option.map_eq_some_iff, Prod.mk.injEq] at h
    obtain ⟨m, hm', rfl, rfl⟩ := h
    refine ⟨(zdx _).symm, rfl, ?_⟩
    simp only [*, if_true, Option.map_some, zdx]
   ·cases h
  ·cases h
 ·rename_i n b a y
  have ha := e1 a (by simp [XOp.takes]; intros; simp [*])
  have hy := e1 y (by simp [XOp.takes]; intros; simp [*])
  simp only [exOp, ha, hy] at h ⊢
  obtain ⟨f, h1, h2, h3⟩ := za3 h
  exact ⟨f, h1, h2, by rw [st_eq hm hk]; exact h3 t.env⟩
 ·rename_i n b a y
  have ha := e1 a (by simp [XOp.takes]; intros; simp [*])
  have hy := e1 y (by simp [XOp.takes]; intros; simp [*])
  simp only [exOp, ha, hy] at h ⊢
  obtain ⟨f, h1, h2, h3⟩ := za0 h
  exact ⟨f, h1, h2, by rw [st_eq hm hk]; exact h3 t.env⟩
 ·rename_i a y
  have ha := e1 a (by simp [XOp.takes]; intros; simp [*])
  have hy := e1 y (by simp [XOp.takes]; intros; simp [*])
  simp only [exOp, ha, hy] at h ⊢
  obtain ⟨f, h1, h2, h3⟩ := za2 h
  exact ⟨f, h1, h2, by rw [st_eq hm hk]; exact h3 t.env⟩
 ·rename_i g l
  have hg := e1 g (by simp [XOp.takes]; intros; simp [*])
  have hl : l.map t.env.ev = l.map s.env.ev := zd0 fun n hn => he n (by simp only [XOp.takes]; exact List.mem_append.2 (.inr hn))
  simp only [exOp, hg, hl] at h ⊢
  clear calm e1
  split at h
  ·obtain ⟨f, h1, h2, h3⟩ := zow h
   refine ⟨f, h1, h2, ?_⟩
   have h4 := h3 t.env
   rw [← st_eq hm hk] at h4
   simp only [*]
  ·obtain ⟨f, h1, h2, h3⟩ := zow h
   refine ⟨f, h1, h2, ?_⟩
   have h4 := h3 t.env
   rw [← st_eq hm hk] at h4
   simp only [*]
  ·cases h
 ·rename_i kd m k v
  have h1 := e1 m (by simp [XOp.takes]; intros; simp [*])
  have h2 := e1 k (by simp [XOp.takes]; intros; simp [*])
  have h3 := e1 v (by simp [XOp.takes]; intros; simp [*])
  refine ⟨some, ?_⟩
  simp only [exOp, h1, h2, h3, hm] at h ⊢
  clear calm e1
  split at h
  ·split at h
   ·split at h
    ·split at h
     ·cases h
      refine ⟨(zdx _).symm, rfl, ?_⟩
      simp only [*, if_true, zdx]
     ·cases h
      refine ⟨(zdx _).symm, rfl, ?_⟩
      simp only [*, if_true, zdx]
     ·cases h
    ·cases h
   ·cases h
  ·cases h
 ·rename_i fn l
  have hl : l.map t.env.ev = l.map s.env.ev := zd0 fun n hn => he n (by simp only [XOp.takes, XOp.reads]; exact hn)
  simp only [exOp, hl] at h ⊢
  obtain ⟨f, h1, h2, h3⟩ := zow h
  exact ⟨f, h1, h2, by rw [st_eq hm hk]; exact h3 t.env⟩
 ·rename_i y
  have hy := e1 y (by simp [XOp.takes])
  simp only [exOp, hy] at h ⊢
  obtain ⟨f, h1, h2, h3⟩ := zfy h
  exact ⟨f, h1, h2, by rw [st_eq hm hk]; exact h3 t.env⟩
 ·refine calm hc fun n hn => he n ?_
  unfold XOp.takes
  split <;> first | exact hn | (cases hc; done) | (rename_i hx _; simp [XOp.reads] at hn)
theorem zmp (v : AV) : v.ren some = v := zmu v
theorem zpu {call : Calls'} {x : XO} (hc : tailOp x.op = true) {s t : St} (hm : t.mem = s.mem) (hk : t.k = s.k) (he : ∀ n ∈ x.takes, t.env.get n = s.env.get n) {s' : St} (h : exOne call s x = some s') :
  ∃ (f : Nat → Option Nat) (v : AV) (t' : St), exOne call t x = some t' ∧ t'.mem = s'.mem ∧ t'.k = s'.k ∧ s'.k = s.k ∧ (∀ u, s'.env.get u = if x.dst = some u then v else (s.env.get u).ren f) ∧ ∀ u, t'.env.get u = if x.dst = some u then v else (t.env.get u).ren f := by
 have r1 : ∀ n ∈ x.op.takes, n ∈ x.takes := fun n hn => List.mem_append.2 (.inl hn)
 have r3 : ∀ u b, x.guard = some (u, b) → u ∈ x.takes := fun u b hg => List.mem_append.2 (.inr (by simp [hg]))
 rcases zd8 h with ⟨v, s1, hx, rfl, hg⟩ | ⟨rfl, u, b, hg, hcc⟩
 ·obtain ⟨f, h1, h2, h3⟩ := zpt hc hm hk (fun n hn => he n (r1 n hn)) hx
  have hbm : ∀ (u : St), (u.bind x.dst v).mem = u.mem := fun u => by cases x.dst <;> rfl
  have hbk : ∀ (u : St), (u.bind x.dst v).k = u.k := fun u => by cases x.dst <;> rfl
  refine ⟨f, v, ({ s1 with env := t.env.ren f } : St).bind x.dst v, ?_, by rw [hbm, hbm], by rw [hbk, hbk], by rw [hbk, h2], fun u => by rw [zbi, h1, zds], fun u => by rw [zbi, zds]⟩
  unfold exOne
  rcases hg with hg | ⟨u, b, hg, hcc⟩
  ·simp only [hg, h3, Option.map_some]; cases x.dst <;> rfl
  ·have : t.env.get u = .imm (.val (.bool b)) := by rw [he u (r3 u b hg)]; exact hcc
   simp only [hg, this, h3, Option.map_some, if_true]; cases x.dst <;> rfl
 ·have hbm : ∀ (u : St), (u.bind x.dst (.tup [])).mem = u.mem := fun u => by cases x.dst <;> rfl
  have hbk : ∀ (u : St), (u.bind x.dst (.tup [])).k = u.k := fun u => by cases x.dst <;> rfl
  refine ⟨some, .tup [], t.bind x.dst (.tup []), ?_, by rw [hbm, hbm, hm], by rw [hbk, hbk, hk], by rw [hbk], fun u => by rw [zbi, zmp], fun u => by rw [zbi, zmp]⟩
  unfold exOne
  rcases hcc with ⟨c, hcc, hne⟩ | hcc
  ·have : t.env.get u = .imm (.val (.bool c)) := by rw [he u (r3 u b hg)]; exact hcc
   simp only [hg, this, hne, if_false]
   cases x.dst <;> rfl
  ·have : t.env.get u = .tup [] := by rw [he u (r3 u b hg)]; exact hcc
   simp only [hg, this]
   cases x.dst <;> rfl
section
variable {num : Names} {P : Program}
variable {call : Calls'} {N : Nat} {ops : Array Oper} {xs : List XO} {n : Nat} {s0 sF : St} {S : Nat → St}
theorem zh5 {i : Nat} (h : lateB ops xs n i = true) : ∃ (x : XO) (y d : Nat), xs[i]? = some x ∧ x.op = .mv (.t y) ∧ x.dst = some d ∧ x.guard = none ∧ y ≠ d ∧
  ∀ (j : Nat) z, n ≤ j → xs[j]? = some z → z.dst ≠ some d ∧ z.dst ≠ some y ∧ (d ∈ z.takes → Region.waitsFor .any ops j i = true) := by
 unfold lateB at h
 split at h
 ·rename_i x hx
  split at h
  ·rename_i y d hop hd hg
   simp only [Bool.and_eq_true, bne_iff_ne, ne_eq, List.all_eq_true, List.mem_range, Bool.or_eq_true, decide_eq_true_eq] at h
   obtain ⟨hyd, hall⟩ := h
   refine ⟨x, y, d, hx, hop, hd, hg, hyd, fun j z hj hz => ?_⟩
   have hjl : j < xs.length := (List.getElem?_eq_some_iff.1 hz).1
   rcases hall j hjl with h | h
   ·omega
   ·rw [hz] at h
    simp only [Bool.and_eq_true, bne_iff_ne, ne_eq, Bool.or_eq_true, Bool.not_eq_true', List.contains_eq_mem, decide_eq_false_iff_not] at h
    obtain ⟨h1, h2, h3⟩ := h
    refine ⟨h1, h2, fun hd => ?_⟩
    rcases h3 with h3 | h3
    ·exact absurd hd h3
    ·exact h3
  ·cases h
 ·cases h
structure Floats (ops : Array Oper) (xs : List XO) (n : Nat) : Prop where
 strong : ∀ (j : Nat) z, n ≤ j → xs[j]? = some z → tailOp z.op = true
 sink : ∀ i, i < n → lateB ops xs n i = false → ∃ j, j ≤ n ∧ i < j ∧ Region.waitsFor .any ops j i = true ∧ (j = n ∨ lateB ops xs n j = false)
 lt : n < ops.size
 chain : Region.chainB .any ops n = true
 low : ∀ (i : Nat) o, ops[i]? = some o → ∀ e ∈ o.after, Region.binds .any e = true → e.on < i
theorem zb8 (h : Region.chainB .any ops n = true) {t : Nat} (hn : n < t) (ht : t < ops.size) : Region.waitsFor .any ops t (t - 1) = true := by
 have := List.all_eq_true.1 h t (List.mem_range.2 ht)
 simp only [Bool.or_eq_true, decide_eq_true_eq] at this
 rcases this with h | h
 ·omega
 ·exact h
theorem Floats.waits (fl : Floats ops xs n) {listed : Array Bool} (inv : HeadInv .any ops n listed) : ∀ (d i : Nat), n - i = d → i < n → lateB ops xs n i = false → listed.getD i true = false → ∀ t, n ≤ t → t ∉ Region.ready .any ops listed := by
 intro d
 induction d using Nat.strongRecOn with
 | _ d ih =>
  intro i hd hi hlate hun t ht hr
  have htlt : t < ops.size := by
   obtain ⟨_, ot, hot, _⟩ := mem_ready.1 hr
   exact (Array.getElem?_eq_some_iff.1 hot).1
  by_cases htn : t = n
  ·subst htn
   obtain ⟨j, hj1, hj2, hw, hj3⟩ := fl.sink i hi hlate
   by_cases hjt : j = t
   ·subst hjt
    have := zmb hr hw
    rw [getD_both hun] at this; cases this
   ·have hjl : lateB ops xs t j = false := by rcases hj3 with h | h; exact absurd h hjt; exact h
    cases hl : listed.getD j false with
    | true =>
     obtain ⟨oj, hoj, e, he, hb, hon⟩ := Region.waitsFor_spec hw
     have h2 := inv.closed j oj hoj hl e he hb
     rw [hon, getD_both hun] at h2
     cases h2
    | false =>
     have hjs : j < listed.size := by rw [inv.size]; omega
     exact ih (t - j) (by omega) j rfl (by omega) hjl (getD_in hjs hl) t (Nat.le_refl _) hr
  ·have := zmb hr (zb8 fl.chain (by omega) htlt)
   rw [getD_both (inv.tail (t - 1) (by omega) (by omega))] at this
   cases this
theorem Floats.ready_some (fl : Floats ops xs n) {listed : Array Bool} (hsz : listed.size = ops.size) (hl : left ops.size listed ≠ 0) : Region.ready .any ops listed ≠ [] := by
 have hex : ∃ i, i < ops.size ∧ listed.getD i true = false := by
  obtain ⟨i, hi, h⟩ := List.countP_pos_iff.1 (Nat.pos_of_ne_zero hl)
  exact ⟨i, List.mem_range.1 hi, by simpa using h⟩
 have : ∃ i, (i < ops.size ∧ listed.getD i true = false) ∧ ∀ j, j < i → ¬ (j < ops.size ∧ listed.getD j true = false) := by
  obtain ⟨i, hi⟩ := hex
  induction i using Nat.strongRecOn with
  | _ i ih =>
   by_cases h : ∃ j, j < i ∧ (j < ops.size ∧ listed.getD j true = false)
   ·obtain ⟨j, h1, h2⟩ := h; exact ih j h1 h2
   ·exact ⟨i, hi, fun j hj h' => h ⟨j, hj, h'⟩⟩
 obtain ⟨i, ⟨hi, hl⟩, hmin⟩ := this
 have ho : ops[i]? = some ops[i] := Array.getElem?_eq_getElem hi
 have : i ∈ Region.ready .any ops listed := by
  refine mem_ready.2 ⟨hl, _, ho, fun e he hb => ?_⟩
  have h1 := fl.low i _ ho e he hb
  have h2 : listed.getD e.on true = true := by
   cases h3 : listed.getD e.on true with
   | true => rfl
   | false => exact absurd ⟨by omega, h3⟩ (hmin e.on h1)
  have h4 : e.on < listed.size := by omega
  simp [h4] at h2 ⊢; exact h2
 intro h
 rw [h] at this; cases this
structure Behind (ops : Array Oper) (xs : List XO) (n : Nat) (S : Nat → St) (listed : Array Bool) (t : St) (k : Nat) : Prop where
 lo : n ≤ k
 hi : k ≤ ops.size
 size : listed.size = ops.size
 head : ∀ i, i < n → lateB ops xs n i = false → listed.getD i true = true
 done : ∀ i, n ≤ i → i < k → listed.getD i true = true
 todo : ∀ i, k ≤ i → i < ops.size → listed.getD i true = false
 mem : t.mem = (S k).mem
 kk : t.k = (S k).k
 env : ∀ u, (∀ (i : Nat) x, i < n → lateB ops xs n i = true → xs[i]? = some x → x.dst = some u → listed.getD i true = true) → t.env.get u = (S k).env.get u
theorem Drawn.moved (d : Drawn call P num N ops xs n s0 sF S fun _ => false) (fl : Floats ops xs n) {i : Nat} (hi : i < n) {x : XO} {y dd : Nat} (hx : xs[i]? = some x) (hop : x.op = .mv (.t y)) (hd : x.dst = some dd) (hg : x.guard = none) (hyd : y ≠ dd)
  (hno : ∀ (j : Nat) z, n ≤ j → xs[j]? = some z → z.dst ≠ some dd ∧ z.dst ≠ some y) : ∀ k, n ≤ k → k ≤ ops.size → (S k).env.get dd = (S k).env.get y := by
 intro k
 induction k with
 | zero => intro h1 _; omega
 | succ k ih =>
  intro h1 h2
  rcases Nat.lt_or_ge k n with hk | hk
  ·have hkn : k + 1 = n := by omega
   rw [hkn]
   have h3 : (S (i + 1)).env.get dd = (S i).env.get y ∧ (S (i + 1)).env.get y = (S i).env.get y := by
    have := d.step i x hi hx
    simp only [exOne, hg, hop, exOp, Option.map_some, hd, Option.some.injEq] at this
    rw [← this]
    simp [Env.get, Env.ev, hyd, Ne.symm hyd]
   have h4 : (S n).env.get dd = (S (i + 1)).env.get dd := d.get dd (i + 1) n (by omega) (Nat.le_refl _) fun j z h5 h6 h7 => by
    rcases (d.one j i z x dd h6 hi h7 hx hd).1 with h | h
    ·omega
    ·exact h
   have h5 : (S n).env.get y = (S (i + 1)).env.get y := d.get y (i + 1) n (by omega) (Nat.le_refl _) fun j z h5 h6 h7 hz => by
    have := (d.one i j x z y hi h6 hx h7 hz).2 (by simp [XO.reads, hop, XOp.reads, srcTmp])
    omega
   rw [h4, h5, h3.1, h3.2]
  ·have ih' := ih hk (by omega)
   have hkl : k < xs.length := by rw [d.len]; omega
   have hz : xs[k]? = some xs[k] := List.getElem?_eq_getElem hkl
   obtain ⟨f, v, t', _, _, _, _, h6, _⟩ := zpu (fl.strong k _ hk hz) rfl rfl (fun _ _ => rfl) (d.go k _ hz)
   obtain ⟨h7, h8⟩ := hno k _ hk hz
   rw [h6, h6, if_neg h7, if_neg h8, ih']
theorem Drawn.behind {ro : Option Nat} (d : Drawn call P num N ops xs n s0 sF S fun _ => false) (fl : Floats ops xs n) (hcall : CallOK num P call) {Q : Exit → Act → World → Prop} {k0 : Nat} {C : Cx} {m : Mem} {a0 : Act} (hN : N ≤ a0.tmps.size) (hQ : ∀ D a', Later num k0 C m a0 D sF a' → Q .normal a' D.w) :
  ∀ (c : Nat) (listed : Array Bool) (a : Act) (D : Cx) (t : St) (k : Nat), left ops.size listed = c → Behind ops xs n S listed t k → Later num k0 C m a0 D t a → wpAnyIn (fz ro) 0 P .any ops Q c listed a D.w := by
 intro c
 induction c with
 | zero =>
  intro listed a D t k hl b hlat
  have hall : ∀ i, i < ops.size → listed.getD i true = true := by
   intro i hi
   cases h : listed.getD i true with
   | true => rfl
   | false =>
    have := List.countP_eq_zero.1 hl i (List.mem_range.2 hi)
    simp [h] at this
  have hk : k = ops.size := by
   rcases Nat.lt_or_ge k ops.size with h | h
   ·have := b.todo k (Nat.le_refl _) h
    rw [hall k h] at this; cases this
   ·have := b.hi; omega
  subst hk
  refine ⟨?_, ?_⟩
  ·rw [List.eq_nil_iff_forall_not_mem]
   intro i hi
   obtain ⟨h1, o, ho, _⟩ := mem_ready.1 hi
   rw [hall i (Array.getElem?_eq_some_iff.1 ho).1] at h1; cases h1
  ·have hfin : S ops.size = sF := by rw [← d.len]; exact d.fin
   have henv : ∀ u, t.env.get u = sF.env.get u := fun u => by rw [← hfin]; exact b.env u fun i x hi _ _ _ => hall i (by have := d.hn; omega)
   have hmem := b.mem
   have hkk := b.kk
   rw [hfin] at hmem hkk
   exact hQ D a ⟨⟨by rw [← hmem]; exact hlat.rep.mem, fun u => by rw [← henv]; exact hlat.rep.env u, by rw [← hmem, ← hkk]; exact hlat.rep.k⟩, by rw [← hmem]; exact hlat.step, by rw [← hkk]; exact hlat.k, hlat.size, hlat.marks⟩
 | succ c ih =>
  intro listed a D t k hl b hlat
  refine ⟨fun h => absurd h (fl.ready_some b.size (by omega)), fun i hi => ?_⟩
  obtain ⟨hun, oi, hoi, _⟩ := mem_ready.1 hi
  have hisz : i < ops.size := (Array.getElem?_eq_some_iff.1 hoi).1
  obtain ⟨x, hx, htr⟩ := d.tr i oi rfl hoi
  have hleft : left ops.size (listed.setIfInBounds i true) = c := by have := zid hisz hun; omega
  rcases Nat.lt_or_ge i n with hin | hin
  ·
   have hlate : lateB ops xs n i = true := by
    cases h : lateB ops xs n i with
    | true => rfl
    | false => rw [b.head i hin h] at hun; cases hun
   obtain ⟨x', y, dd, hx', hop, hd, hg, hyd, hno⟩ := zh5 hlate
   rw [hx] at hx'
   cases hx'
   have hy : t.env.get y = (S k).env.get y := b.env y fun j z hj hlj hz hzd => by
    have := (d.one i j x z y hin hj hx hz hzd).2 (by simp [XO.reads, hop, XOp.reads, srcTmp])
    have h2 := zmb hi this.2
    exact zf7 h2
   have h1 : exOne call t x = some (t.bind (some dd) (t.env.get y)) := by
    simp only [exOne, hg, hop, exOp, Option.map_some, hd]
    rfl
   unfold wpOpIn
   simp only [hoi]
   refine one_wp hcall htr hlat.rep (by rw [hlat.size]; exact hN) h1 fun E a' hl' _ => ?_
   rw [hlat.k] at hl'
   refine ih _ a' E _ k hleft ?_ (hlat.trans hl')
   refine ⟨b.lo, b.hi, by simp [b.size], fun j hj hjl => ?_, fun j h2 h3 => ?_, fun j h2 h3 => ?_, b.mem, b.kk, fun u hu => ?_⟩
   ·have h4 := b.head j hj hjl
    by_cases hij : i = j
    ·subst hij; rw [hlate] at hjl; cases hjl
    ·rw [getD_set_ne true hij]; exact h4
   ·rw [getD_set_ne true (by omega)]; exact b.done j h2 h3
   ·rw [getD_set_ne true (by have := b.lo; omega)]; exact b.todo j h2 h3
   ·rw [zbi]
    by_cases hud : u = dd
    ·subst hud
     rw [if_pos rfl, hy]
     exact (d.moved fl hin hx hop hd hg hyd (fun j z hj hz => ⟨(hno j z hj hz).1, (hno j z hj hz).2.1⟩) k b.lo b.hi).symm
    ·rw [if_neg (by intro h; cases h; exact hud rfl)]
     refine b.env u fun j z hj hlj hz hzd => ?_
     have h5 := hu j z hj hlj hz hzd
     by_cases hij : i = j
     ·subst hij
      rw [hx] at hz; cases hz
      rw [hd] at hzd; cases hzd
      exact absurd rfl hud
     ·rw [getD_set_ne true hij] at h5; exact h5
  ·
   have hik : i = k := by
    rcases Nat.lt_trichotomy i k with h | h | h
    ·rw [b.done i hin h] at hun; cases hun
    ·exact h
    ·have := zmb hi (zb8 fl.chain (by have := b.lo; omega) hisz)
     rw [getD_both (b.todo (i - 1) (by omega) (by omega))] at this
     cases this
   subst hik
   have hst := d.go i x hx
   have htail := fl.strong i x hin hx
   obtain ⟨f, v, t', h1, h2, h3, h4, h5, h6⟩ := zpu htail b.mem b.kk (fun u hu => b.env u fun j z hj hlj hz hzd => by
    obtain ⟨z', y, dd, hz', hop, hd, hg, hyd, hno⟩ := zh5 hlj
    rw [hz] at hz'
    cases hz'
    rw [hzd] at hd
    cases hd
    exact zf7 (zmb hi ((hno i x hin hx).2.2 hu))) hst
   unfold wpOpIn
   simp only [hoi]
   refine one_wp hcall htr hlat.rep (by rw [hlat.size]; exact hN) h1 fun E a' hl' _ => ?_
   rw [hlat.k] at hl'
   refine ih _ a' E _ (i + 1) hleft ?_ (hlat.trans hl')
   refine ⟨by omega, by omega, by simp [b.size], fun j hj hjl => ?_, fun j h7 h8 => ?_, fun j h7 h8 => ?_, h2, h3, fun u hu => ?_⟩
   ·rw [getD_set_ne true (by omega)]; exact b.head j hj hjl
   ·by_cases hij : i = j
    ·subst hij; simp [b.size, hisz]
    ·rw [getD_set_ne true hij]; exact b.done j h7 (by omega)
   ·rw [getD_set_ne true (by omega)]; exact b.todo j (by omega) h8
   ·rw [h5, h6]
    by_cases hud : x.dst = some u
    ·rw [if_pos hud, if_pos hud]
    ·rw [if_neg hud, if_neg hud, b.env u fun j z hj hlj hz hzd => ?_]
     have h9 := hu j z hj hlj hz hzd
     rwa [getD_set_ne true (by omega)] at h9
theorem Drawn.late {ro : Option Nat} (d : Drawn call P num N ops xs n s0 sF S fun _ => false) (fl : Floats ops xs n) (hcall : CallOK num P call) {Q : Exit → Act → World → Prop} {k0 : Nat} {C : Cx} {m : Mem} {a0 : Act} (hN : N ≤ a0.tmps.size) (hQ : ∀ D a', Later num k0 C m a0 D sF a' → Q .normal a' D.w) :
  ∀ (c : Nat) (listed : Array Bool) (a : Act) (D : Cx) (t : St), left ops.size listed = c → HeadInv .any ops n listed → Part xs n S listed t → Later num k0 C m a0 D t a → wpAnyIn (fz ro) 0 P .any ops Q c listed a D.w := by
 intro c
 induction c with
 | zero =>
  intro listed a D t hl inv p hlat
  have := List.countP_eq_zero.1 hl n (List.mem_range.2 fl.lt)
  rw [inv.tail n (Nat.le_refl _) fl.lt] at this
  simp at this
 | succ c ih =>
  intro listed a D t hl inv p hlat
  by_cases hall : ∀ i, i < n → lateB ops xs n i = false → listed.getD i true = true
  ·
   refine d.behind fl hcall hN hQ (c + 1) listed a D t n hl ⟨Nat.le_refl _, d.hn, inv.size, hall, fun i h1 h2 => by omega, inv.tail, ?_, p.k.trans (d.pre 0 n (Nat.zero_le _) (Nat.le_refl _)).2.2.symm, fun u hu => ?_⟩ hlat
   ·refine List.ext_getElem? fun id => ?_
    rcases Nat.lt_or_ge id (S n).mem.length with h | h
    ·refine p.live id h fun j hj h1 h2 => ?_
     cases hlj : lateB ops xs n j with
     | false => exact hall j hj hlj
     | true =>
      obtain ⟨x, y, dd, hx, hop, hd, hg, _⟩ := zh5 hlj
      have := d.step j x hj hx
      simp only [exOne, hg, hop, exOp, Option.map_some, hd, Option.some.injEq] at this
      rw [← this] at h2
      exact absurd h2 (by show ¬ id < (S j).mem.length; omega)
    ·rw [List.getElem?_eq_none h, List.getElem?_eq_none (by rw [p.len]; exact h)]
   ·by_cases hw : ∃ (j : Nat) (y : XO), j < n ∧ xs[j]? = some y ∧ y.dst = some u
    ·obtain ⟨j, y, hj, hy, hd⟩ := hw
     have hlj : listed.getD j true = true := by
      cases hl : lateB ops xs n j with
      | false => exact hall j hj hl
      | true => exact hu j y hj hl hy hd
     rw [(p.done j y u hj hy hd hlj).1]
     exact (d.get u (j + 1) n (by omega) (Nat.le_refl _) fun k z h5 h6 h7 => by
      rcases (d.one k j z y u h6 hj h7 hy hd).1 with h | h
      ·omega
      ·exact h).symm
    ·rw [(p.not u fun j y h1 h2 h3 => absurd ⟨j, y, h1, h2, h3⟩ hw).1]
     exact (d.get u 0 n (Nat.zero_le _) (Nat.le_refl _) fun k z _ h6 h7 h8 => hw ⟨k, z, h6, h7, h8⟩).symm
  ·have hex : ∃ j, j < n ∧ lateB ops xs n j = false ∧ listed.getD j true = false := by
    apply Classical.byContradiction
    intro hne
    apply hall
    intro i hi hli
    cases h : listed.getD i true with
    | true => rfl
    | false => exact absurd ⟨i, hi, hli, h⟩ hne
   obtain ⟨j, hj, hlj, hjun⟩ := hex
   refine ⟨fun h => absurd h (fl.ready_some inv.size (by omega)), fun i hi => ?_⟩
   obtain ⟨hun, oi, hoi, _⟩ := mem_ready.1 hi
   have hisz : i < ops.size := (Array.getElem?_eq_some_iff.1 hoi).1
   have hin : i < n := by
    rcases Nat.lt_or_ge i n with h | h
    ·exact h
    ·exact absurd hi (fl.waits inv _ j rfl hj hlj hjun i h)
   obtain ⟨x, hx, htr⟩ := d.tr i oi rfl hoi
   obtain ⟨t1, h1, hnext⟩ := d.part_step hcall p hin hi hx (fun fn l hop => by rw [(zp7 htr).1]; simp only [XO.wipe, hop, XOp.wipe]) hlat.rep
   unfold wpOpIn
   simp only [hoi]
   refine one_wp hcall htr hlat.rep (by rw [hlat.size]; exact hN) h1 fun E a' hl' _ => ?_
   obtain ⟨t2, F, hw, hl2, p2⟩ := hnext E a' hl'.rep
   rw [← hw]
   refine ih _ a' F t2 (by have := zid hisz hun; omega) (inv.set hi hin) p2 ?_
   rw [hlat.k] at hl'
   rw [hl'.k] at hl2
   exact (hlat.trans hl').trans hl2
end
section
variable {num : Names} {P : Program}
theorem zmf {ro : Option Nat} {call : Calls'} (hcall : CallOK num P call) (hmix : P.follows .mixedOrders = true) {N id : Nat} {ops : Array Oper} {draw : Bool} {keep : List Nat} {xs : List XO} (htr : trOps P num N ops ops.toList = xs.map XO.wipe) (hd : drawsOk (.region id ops draw) (.region keep xs) = true) {C : Cx} {s s' : St} {a : Act} (hs : SRep num C s a) (hN : N ≤ a.tmps.size) (h : exOps call s xs = some s')
  {Q : Exit → Act → World → Prop} (hQ : ∀ D a', Later num s.k C s.mem a D s' a' → Q .normal a' D.w) : (Code.region id ops draw).wpIn (fz ro) 0 P Q a C.w := by
 cases draw with
 | false => exact wpIn_region_list (zig hcall ops.toList xs htr hs hN h hQ)
 | true =>
  simp only [drawsOk, Bool.and_eq_true, Bool.or_eq_true (List.any _ _), beq_iff_eq] at hd
  obtain ⟨hd, hlen⟩ := hd
  rcases hd with hd | hd
  case inr =>
   obtain ⟨n, _, hok⟩ := List.any_eq_true.1 hd
   obtain ⟨S, d, htail, k5⟩ := zdi (call := call) (s0 := s) htr hlen hok h
   have hn' := d.hn
   refine wpIn_region_any hmix ?_
   have h0 := zdf hs
   have h1 := zm7 h0.rep ((S n).mem.length - s.mem.length)
   have := d.any (ro := ro) htail k5 hcall (Q := Q) (k := s.k) (C := C) (m := s.mem) (a0 := a) hN hQ n (Array.replicate ops.size false) a _ _ (zmy n ops.size hn')
    ⟨by simp, fun j oj _ hl => (by rw [getD_replicate_false] at hl; cases hl), fun t ht h2 => getD_in (by simpa using h2) (getD_replicate_false _ _)⟩
    (d.start h0.rep) (h0.trans h1)
   rw [show n + (ops.size - n) = ops.size by omega] at this
   exact this
  obtain ⟨n, hn, hok⟩ := List.any_eq_true.1 hd
  rw [Bool.or_eq_true] at hok
  rcases hok with hok | hok
  case inr =>
   simp only [drawOkL, Bool.and_eq_true] at hok
   obtain ⟨⟨⟨⟨⟨⟨k1, k2⟩, k3⟩, k4⟩, k5⟩, k6⟩, k7⟩ := hok
   simp only [decide_eq_true_eq] at k6
   obtain ⟨S, d⟩ := zdj (call := call) (s0 := s) htr hlen k1 k2 k3 (by omega) h
   have fl : Floats ops xs n := by
    refine ⟨fun j z hj hz => ?_, fun i hi hli => ?_, k6.1, k6.2, fun i o ho e he hb => ?_⟩
    ·refine List.all_eq_true.1 k4 z (List.mem_of_getElem? (i := j - n) ?_)
     rw [List.getElem?_drop, ← hz]
     congr 1; omega
    ·have := List.all_eq_true.1 k5 i (List.mem_range.2 hi)
     rw [hli, Bool.false_or] at this
     obtain ⟨j, hj, h2⟩ := List.any_eq_true.1 this
     simp only [Bool.and_eq_true, decide_eq_true_eq, Bool.or_eq_true, beq_iff_eq, Bool.not_eq_true'] at h2
     exact ⟨j, by have := List.mem_range.1 hj; omega, h2.1, h2.2.1, h2.2.2⟩
    ·have := List.all_eq_true.1 k7 i (List.mem_range.2 (Array.getElem?_eq_some_iff.1 ho).1)
     simp only [ho] at this
     have := Array.all_eq_true_iff_forall_mem.1 this e he
     simpa [hb] using this
   refine wpIn_region_any hmix ?_
   have h0 := zdf hs
   have h1 := zm7 h0.rep ((S n).mem.length - s.mem.length)
   exact d.late fl hcall (Q := Q) (k0 := s.k) (C := C) (m := s.mem) (a0 := a) hN hQ ops.size (Array.replicate ops.size false) a _ _ (zmy ops.size ops.size (Nat.le_refl _))
    ⟨by simp, fun j oj _ hl => (by rw [getD_replicate_false] at hl; cases hl), fun t ht h2 => getD_in (by simpa using h2) (getD_replicate_false _ _)⟩
    (d.start h0.rep) (h0.trans h1)
  simp only [drawOk, Bool.and_eq_true] at hok
  obtain ⟨⟨⟨⟨k1, k2⟩, k3⟩, k4⟩, k5⟩ := hok
  have htail : n = ops.size ∨ (n < ops.size ∧ Region.sinkB .any ops n = true ∧ Region.chainB .any ops n = true) := by
   simp only [Bool.or_eq_true, beq_iff_eq, Bool.and_eq_true, decide_eq_true_eq] at k4
   rcases k4 with h | ⟨⟨h, h'⟩, h''⟩
   ·exact .inl h
   ·exact .inr ⟨h, h', h''⟩
  have hn' : n ≤ ops.size := by rcases htail with h | h <;> omega
  obtain ⟨S, d⟩ := zdj (call := call) (s0 := s) htr hlen k1 k2 k3 hn' h
  refine wpIn_region_any hmix ?_
  have h0 := zdf hs
  have h1 := zm7 h0.rep ((S n).mem.length - s.mem.length)
  have := d.any (ro := ro) htail k5 hcall (Q := Q) (k := s.k) (C := C) (m := s.mem) (a0 := a) hN hQ n (Array.replicate ops.size false) a _ _ (zmy n ops.size hn')
   ⟨by simp, fun j oj _ hl => (by rw [getD_replicate_false] at hl; cases hl), fun t ht h2 => getD_in (by simpa using h2) (getD_replicate_false _ _)⟩
   (d.start h0.rep) (h0.trans h1)
  rw [show n + (ops.size - n) = ops.size by omega] at this
  exact this
end
end Go.EX


set_option linter.unusedVariables false
set_option linter.unusedSimpArgs false
namespace Go.EX
section
variable {num : Names} {P : Program}
theorem zri {F : Fence} {n : Nat} {c : Code} {Q : Exit → Act → World → Prop} {a : Act} {w : World} (h : c.wpIn F n P (Exit.noGoto Q) a w) : (Code.scope c).wpIn F n P Q a w := by
 intro b k cs hro hb hr
 obtain ⟨e, a₁, w₁, hq, harr⟩ := h b (.inScope c :: k) cs hro hb hr
 have h0 : (lone (b.atR a (.code (.scope c) :: k)) cs w).fenced P F := fenced_calm hb hr rfl
 have s0 : step P (lone (b.atR a (.code (.scope c) :: k)) cs w) = .next (lone (b.atR a (.code c :: .inScope c :: k)) cs w) := step_lone_go (by simp [stepG, stepG.exec, Frame.atR])
 have s1 : ∀ a w, step P (lone (b.atR a (.inScope c :: k)) cs w) = .next (lone (b.atR a k) cs w) := fun a w => step_lone_go (by simp [stepG, stepG.exec, Frame.atR])
 cases e with
 | normal => exact ⟨.normal, a₁, w₁, hq, .head h0 s0 (StepsIn.trans harr (.one (fenced_calm hb hr rfl) (s1 _ _)))⟩
 | goto l => exact hq.elim
 | exit id => exact ⟨_, a₁, w₁, hq, .of_steps (.one h0 s0) ⟨fun k' hk => harr.1 k' (by simp [exitTo, hk]), fun hr hk => by
   obtain ⟨k₁, h1, h2⟩ := harr.2 hr (by simp [exitTo, hk])
   exact ⟨k₁, h1, h2⟩⟩⟩
 | ret => exact ⟨_, a₁, w₁, hq, .of_steps (.one h0 s0) harr⟩
 | panic ch => exact ⟨_, a₁, w₁, hq, .of_steps (.one h0 s0) harr⟩
 | outgrown => exact ⟨_, a₁, w₁, hq, .of_steps (.one h0 s0) harr⟩
theorem zlv {C : Cx} {b : Nat} {o : Obj} (hI : ¬ C.I b) (hb : ∀ arr e fz, C.w.heap[b]? ≠ some (.cells arr e fz)) : Tr some C { C with w := C.w.putObj b o } := by
 refine ⟨fun _ h => h, fun c hc => ?_, fun i j hi hj => ?_⟩
 ·exact World.putObj_heap_other (fun h => hI (by rw [← h]; exact hc))
 ·cases hj
  refine ⟨hi, rfl, fun n e h => h.same ?_⟩
  refine World.putObj_heap_other fun heq => ?_
  obtain ⟨arr, fz, h1, _⟩ := h
  rw [heq] at h1
  exact hb _ _ _ h1
theorem ziv {C : Cx} {m : Mem} (hm : MRep num C m) {id : Nat} {env : Env} {ps : List Nat} {as b : XCode} {y : Bool} (ho : m[id]? = some (.loop env ps as b y)) {ob : Obj} {o' : AObj}
  (ho' : ORep num { C with w := C.w.putObj (C.σ id) ob } id o') (hf : o'.isFix = false) {k : Nat} (hk : k ≤ m.length) : Step num k C m { C with w := C.w.putObj (C.σ id) ob } (m.set id o') := by
 obtain ⟨R, N, hR, _⟩ := hm.obj id _ ho
 have hI : ¬ C.I (C.σ id) := hm.imm _ ⟨id, _, ho, rfl, rfl⟩
 have hc : ∀ arr e fz, C.w.heap[C.σ id]? ≠ some (.cells arr e fz) := fun arr e fz h => by rw [hR] at h; cases h
 have ht := zlv (o := ob) hI hc
 have hlt : id < m.length := (List.getElem?_eq_some_iff.1 ho).1
 have split : ∀ (i : Nat) (p : AObj), (m.set id o')[i]? = some p → (i = id ∧ p = o') ∨ (i ≠ id ∧ m[i]? = some p) := by
  intro i p hp
  rw [zop] at hp
  split at hp
  ·rename_i h; cases hp; exact .inl ⟨h.1.symm, rfl⟩
  ·rename_i h
   refine .inr ⟨fun he => h ⟨he.symm, by rw [he]; exact hlt⟩, hp⟩
 have hne : ∀ (i : Nat) (p : AObj), i ≠ id → m[i]? = some p → p.live = true → C.σ i ≠ C.σ id := by
  intro i p hi hp hl he
  exact hi (hm.inj2 num i id p _ hp ho hl rfl rfl he)
 have hown : ∀ c, Own { C with w := C.w.putObj (C.σ id) ob } (m.set id o') c → Own C m c := by
  rintro c ⟨i, p, hp, hl, hb⟩
  rcases split i p hp with ⟨rfl, rfl⟩ | ⟨hi, hp'⟩
  ·exact ⟨i, _, ho, rfl, hb⟩
  ·exact ⟨i, p, hp', hl, hb⟩
 refine ⟨⟨by simp; exact hm.len, ?_, ?_, fun c hc' => hm.imm c (hown c hc'), fun c hc' => by simp; exact hm.bd c hc', num.up hm.glo ht.imm ht.keep⟩, rfl, rfl, rfl, by simp, ?_, ?_, fun _ h => h, fun _ h => .inl h, fun c hc' => .inr (hown c hc'), ?_, by simp; exact hk⟩
 ·intro i p hp
  rcases split i p hp with ⟨rfl, rfl⟩ | ⟨hi, hp'⟩
  ·exact ho'
  ·by_cases hl : p.live = true
   ·exact zkg ht rfl (fun x hx => by rw [← hx]; exact World.putObj_heap_other (hne i p hi hp' hl)) (hm.obj i p hp')
   ·cases p with
    | dead => trivial
    | _ => exact absurd rfl hl
 ·intro i j p q hp hq hlp hlq he
  rcases split i p hp with ⟨rfl, rfl⟩ | ⟨hi, hp'⟩ <;> rcases split j q hq with ⟨rfl, rfl⟩ | ⟨hj, hq'⟩
  ·exact .inl rfl
  ·exact absurd he.symm (hne j q hj hq' hlq)
  ·exact absurd he (hne i p hi hp' hlp)
  ·exact hm.inj i j p q hp' hq' hlp hlq he
 ·intro c hc' hno
  exact World.putObj_heap_other fun he => hno ⟨id, _, ho, rfl, he.symm⟩
 ·intro c n e h
  refine h.same (World.putObj_heap_other fun heq => ?_)
  obtain ⟨arr, fz, h1, _⟩ := h
  rw [heq] at h1
  exact hc _ _ _ h1
 ·intro i hi p hp hmv
  rcases split i p hp with ⟨rfl, rfl⟩ | ⟨hi', hp'⟩
  ·exact ⟨_, ho, rfl, rfl⟩
  ·exact ⟨p, hp', hmv, rfl⟩
theorem zlu {C D : Cx} {m m' : Mem} {k : Nat} (hst : Step num k C m D m') {b : Nat} {o : Obj} (hlo : C.w.heap.size ≤ b) (hI : ¬ D.I b) (hb : ∀ arr e fz, D.w.heap[b]? ≠ some (.cells arr e fz)) (hown : ¬ Own D m' b) :
  Step num k C m { D with w := D.w.putObj b o } m' := by
 have ht := zlv (o := o) hI hb
 refine ⟨⟨hst.rep.len, fun i p hp => ?_, hst.rep.inj, hst.rep.imm, fun c hc => by simp; exact hst.rep.bd c hc, num.up hst.rep.glo ht.imm ht.keep⟩, hst.os, hst.tape, hst.out, by simp; exact hst.size, fun c hc hno => ?_, fun c n e h => ?_, hst.imm, hst.imm', hst.own, hst.same, hst.len⟩
 ·by_cases hl : p.live = true
  ·exact zkg ht rfl (fun x hx => by rw [← hx]; exact World.putObj_heap_other fun he => hown ⟨i, p, hp, hl, he⟩) (hst.rep.obj i p hp)
  ·cases p with
   | dead => trivial
   | _ => exact absurd rfl hl
 ·rw [← hst.keep c hc hno]
  exact World.putObj_heap_other (by omega)
 ·have h1 := hst.sz c n e h
  refine h1.same (World.putObj_heap_other fun heq => ?_)
  obtain ⟨arr, fz, h2, _⟩ := h1
  rw [heq] at h2
  exact hb _ _ _ h2
theorem zf8 (e : Env) (t : Nat) : e.get t = .junk ∨ (t, e.get t) ∈ e := by
 induction e with
 | nil => exact .inl rfl
 | cons p r ih =>
  obtain ⟨k, v⟩ := p
  simp only [Env.get]
  by_cases h : t = k
  ·subst h; rw [if_pos rfl]; exact .inr (List.mem_cons_self ..)
  ·rw [if_neg h]
   rcases ih with ih | ih
   ·exact .inl ih
   ·exact .inr (List.mem_cons_of_mem _ ih)
theorem zdz {C : Cx} {e : Env} {tmps : Array Value} (h : ∀ p ∈ e, ARep num C p.2 (tmps.getD p.1 undef)) : ERep num C e tmps := by
 intro t
 rcases zf8 e t with h1 | h1
 ·rw [h1]; exact .junk _
 ·exact h _ h1
theorem zdo {C : Cx} : ∀ (ps : List Nat) (xs : List AV) (vs : List Value) {e : Env} {tmps : Array Value}, ERep num C e tmps → (∀ p ∈ ps, p < tmps.size) → xs.length = vs.length →
  (∀ (j : Nat) (x : AV) (u : Value), xs[j]? = some x → vs[j]? = some u → ARep num C x u) → ERep num C (e.enterAt ps xs) ((ps.zip vs).foldl (fun t p => t.setIfInBounds p.1 p.2) tmps)
 | [], xs, vs, e, tmps, he, _, _, _ => by simpa [Env.enterAt] using he
 | p :: ps, [], vs, e, tmps, he, _, hl, _ => by
  obtain rfl : vs = [] := by simpa using hl.symm
  simpa [Env.enterAt] using he
 | p :: ps, x :: xs, [], e, tmps, he, _, hl, _ => by simp at hl
 | p :: ps, x :: xs, v :: vs, e, tmps, he, hp, hl, hr => by
  simp only [Env.enterAt, List.zip_cons_cons, List.foldl_cons]
  refine zdo ps xs vs (ERep.put (a := { tmps := tmps, defers := [] }) he (hp p (List.mem_cons_self ..)) (hr 0 x v rfl rfl)) (fun q hq => by simpa [Act.put] using hp q (List.mem_cons_of_mem _ hq)) (by simpa using hl) fun j y u hy hu => hr (j + 1) y u (by simpa using hy) (by simpa using hu)
theorem zfq (l : List (Nat × Value)) : ∀ (tmps : Array Value), (l.foldl (fun t p => t.setIfInBounds p.1 p.2) tmps).size = tmps.size := by
 induction l with
 | nil => intro t; rfl
 | cons p l ih => intro t; rw [List.foldl_cons, ih]; simp
end
end Go.EX


set_option linter.unusedVariables false
set_option linter.unusedSimpArgs false
namespace Go.EX
section
variable {num : Names} {P : Program}
variable {call : Calls'} {N : Nat} {ops : Array Oper} {xs : List XO} {n : Nat} {s0 sF : St} {S : Nat → St} {sp : Nat → Bool}
theorem Drawn.anyJ {ro : Option Nat} (d : Drawn call P num N ops xs n s0 sF S sp) (hspt : ∀ i, n ≤ i → sp i = false) (htail : n = ops.size ∨ (n < ops.size ∧ Region.sinkB .any ops n = true ∧ Region.chainB .any ops n = true)) (hseq : Region.seqB .any ops (ops.size - n) n (headArr ops.size n) = true) (hcall : CallOK num P call) {Q : Exit → Act → World → Prop} {k : Nat} {C : Cx} {m : Mem} {a0 : Act} (hN : N ≤ a0.tmps.size) (hQ : ∀ D a', Later num k C m a0 D sF a' → Q .normal a' D.w)
  (J : Array Bool → Cx → St → Act → Prop)
  (hJ : ∀ listed D t a i x E t1 a' F t2, i < n → sp i = false → listed.getD i true = false → xs[i]? = some x → J listed D t a → Later num t.k D t.mem a E t1 a' → (∃ v, a' = a.put x.dst v) → Later num t1.k E t1.mem a' F t2 a' → J (listed.setIfInBounds i true) F t2 a')
  (hS : ∀ listed D t a i o, i < n → sp i = true → HeadInv .any ops n listed → i ∈ Region.ready .any ops listed → ops[i]? = some o → Part xs n S listed t → Later num k C m a0 D t a → J listed D t a → ∀ K : Act → World → Prop,
   (∀ F t2 a', Later num k C m a0 F t2 a' → Part xs n S (listed.setIfInBounds i true) t2 → J (listed.setIfInBounds i true) F t2 a' → K a' F.w) →
   if Region.wanted o (yielded ops a.tmps) then o.wpIn (fz ro) 0 P a D.w K Q else (∀ f, o.about P D.w a.eval = some f → (fz ro).fn f) ∧ K (a.put o.dst undef) D.w) :
  ∀ (c : Nat) (listed : Array Bool) (a : Act) (D : Cx) (t : St), left n listed = c → HeadInv .any ops n listed → Part xs n S listed t → Later num k C m a0 D t a → J listed D t a → wpAnyIn (fz ro) 0 P .any ops Q (c + (ops.size - n)) listed a D.w := by
 intro c
 induction c with
 | zero =>
  intro listed a D t hl inv p hlat _
  rw [Nat.zero_add]
  have hall : ∀ i, i < n → listed.getD i true = true := by
   intro i hi
   cases h : listed.getD i true with
   | true => rfl
   | false =>
    have := List.countP_eq_zero.1 hl i (List.mem_range.2 hi)
    simp [h] at this
  have hhead := zgr inv.size d.hn hall inv.tail
  have hdl : (ops.toList.drop n).length = ops.size - n := by simp
  obtain ⟨h1, h2, h3⟩ := d.all p hall
  have hSn : Later num k C m a0 D (S n) a :=
   ⟨⟨by rw [← h1]; exact hlat.rep.mem, fun u => by rw [← h2]; exact hlat.rep.env u, by rw [← h1, ← h3]; exact hlat.rep.k⟩, by rw [← h1]; exact hlat.step, by rw [← h3]; exact hlat.k, hlat.size, hlat.marks⟩
  have htr : trOps P num N ops (ops.toList.drop n) = (xs.drop n).map XO.wipe := by
   refine zqa _ _ (by simp [d.len]) fun i o hi => ?_
   rw [List.getElem?_drop] at hi
   obtain ⟨x, hx, h⟩ := d.tr (n + i) o (hspt _ (by omega)) (by simpa using hi)
   exact ⟨x, by rw [List.getElem?_drop]; exact hx, h⟩
  have hw := zig (ro := ro) hcall (Q := Q) (ops.toList.drop n) (xs.drop n) htr hSn.rep (by rw [hSn.size]; exact hN) d.rest fun E a'' hl' => hQ E a'' (hSn.trans (by rw [hSn.k] at hl'; exact hl'))
  have := zrg (md := .any) (Q' := Q) (ops.toList.drop n) n listed a D.w (fun j => by simp [List.getElem?_drop]) (by rw [hdl, hhead]; exact hseq) hw
  rwa [hdl] at this
 | succ c ih =>
  intro listed a D t hl inv p hlat hj
  rw [show c + 1 + (ops.size - n) = (c + (ops.size - n)) + 1 by omega]
  refine ⟨fun h => absurd h (d.ready_some inv.size (by omega)), fun i hi => ?_⟩
  obtain ⟨hun, oi, hoi, _⟩ := mem_ready.1 hi
  have hisz : i < ops.size := (Array.getElem?_eq_some_iff.1 hoi).1
  have hin : i < n := by
   rcases htail with h | ⟨h1, h2, h3⟩
   ·omega
   ·rcases Nat.lt_or_ge i n with h | h
    ·exact h
    ·obtain ⟨j, hj, h4⟩ := List.countP_pos_iff.1 (show 0 < left n listed by omega)
     exact absurd hi (tail_waits h2 h3 h1 inv _ j rfl (List.mem_range.1 hj) (by simpa using h4) i h)
  have hleft := zid hin hun
  unfold wpOpIn
  simp only [hoi]
  cases hsp : sp i with
  | false =>
   obtain ⟨x, hx, htr⟩ := d.tr i oi hsp hoi
   obtain ⟨t1, h1, hnext⟩ := d.part_step hcall p hin hi hx (fun fn l hop => by rw [(zp7 htr).1]; simp only [XO.wipe, hop, XOp.wipe]) hlat.rep
   refine one_wp hcall htr hlat.rep (by rw [hlat.size]; exact hN) h1 fun E a' hl' hput => ?_
   obtain ⟨t2, F, hw, hl2, p2⟩ := hnext E a' hl'.rep
   rw [← hw]
   have hdst : x.dst = oi.dst := (zp7 htr).2.2.1
   refine ih _ a' F t2 (by omega) (inv.set hi hin) p2 ?_ (hJ listed D t a i x E t1 a' F t2 hin hsp hun hx hj hl' (by rw [hdst]; exact hput) hl2)
   rw [hlat.k] at hl'
   rw [hl'.k] at hl2
   exact (hlat.trans hl').trans hl2
  | true =>
   exact hS listed D t a i oi hin hsp inv hi hoi p hlat hj _ fun F t2 a' hl' p2 hj' => ih _ a' F t2 (by omega) (inv.set hi hin) p2 hl' hj'
def mapObj (es : List (Value × Value)) : AObj := .map (es.map fun p => (.imm (.val p.1), .imm (.val p.2)))
structure Box (C0 : Cx) (m0 : Mem) (D : Cx) (m : Mem) (b : Nat) (es : List (Value × Value)) : Prop where
 own0 : C0.w.heap.size ≤ b ∨ Own C0 m0 b
 lt : b < D.w.heap.size
 row : ∃ (es' : Array MapEntry) (clk : Nat), D.w.heap[b]? = some (.map es' clk) ∧ es'.size = es.length ∧ ∀ (j : Nat) p x, es[j]? = some p → es'[j]? = some x → x.key = p.1 ∧ x.val = p.2
 imm : ¬ D.I b
 no : ¬ Own D m b
 one : ∀ p ∈ es, p.1.oneCell' = true ∧ p.2.oneCell' = true
theorem Box.keep {C0 D E : Cx} {m0 m m' : Mem} {b k : Nat} {es : List (Value × Value)} (B : Box C0 m0 D m b es) (h : Step num k D m E m') : Box C0 m0 E m' b es := by
 refine ⟨B.own0, Nat.lt_of_lt_of_le B.lt h.size, ?_, fun hI => ?_, fun ho => ?_, B.one⟩
 ·obtain ⟨es', clk, h1, h2⟩ := B.row
  exact ⟨es', clk, by rw [h.keep b B.lt B.no]; exact h1, h2⟩
 ·rcases h.imm' b hI with h1 | h1 | h1
  ·exact B.imm h1
  ·have := B.lt; omega
  ·exact B.no h1
 ·rcases h.own b ho with h1 | h1
  ·have := B.lt; omega
  ·exact B.no h1
def ov (t : St) (q : Nat) (es : List (Value × Value)) : St := { k := t.k, env := (q, .omap t.mem.length) :: t.env, mem := t.mem ++ [mapObj es] }
theorem over {C0 D : Cx} {m0 : Mem} {k : Nat} {a0 a : Act} {t : St} {b q : Nat} {es : List (Value × Value)} (h : Later num k C0 m0 a0 D t a) (B : Box C0 m0 D t.mem b es) (hq : a.tmps.getD q undef = .map (some b)) :
  ∃ E, E.w = D.w ∧ Later num k C0 m0 a0 E (ov t q es) a := by
 have hm := h.rep.mem
 have hlen := hm.len
 let E : Cx := { σ := fun i => if i = D.n then b else D.σ i, I := D.I, n := D.n + 1, w := D.w }
 have hσ : ∀ i, i < t.mem.length → E.σ i = D.σ i := fun i hi => by show (if i = D.n then b else D.σ i) = _; rw [if_neg (by omega)]
 have hσn : E.σ D.n = b := by show (if D.n = D.n then b else _) = _; rw [if_pos rfl]
 have ht : Tr some D E := ⟨fun _ h => h, fun _ _ => rfl, fun i j hi hj => by cases hj; exact ⟨by show _ < D.n + 1; omega, hσ i (by omega), fun _ _ h => h⟩⟩
 have split : ∀ (i : Nat) p, (t.mem ++ [mapObj es])[i]? = some p → (i < t.mem.length ∧ t.mem[i]? = some p) ∨ (i = D.n ∧ p = mapObj es) := by
  intro i p hp
  rcases Nat.lt_or_ge i t.mem.length with h | h
  ·rw [List.getElem?_append_left h] at hp; exact .inl ⟨h, hp⟩
  ·rw [List.getElem?_append_right h] at hp
   have h0 : i - t.mem.length = 0 := by
    rcases Nat.eq_zero_or_pos (i - t.mem.length) with h0 | h0
    ·exact h0
    ·rw [List.getElem?_eq_none (by simp; omega)] at hp; cases hp
   rw [h0] at hp
   exact .inr ⟨by omega, by simpa using hp.symm⟩
 have hown : ∀ c, Own E (t.mem ++ [mapObj es]) c → c = b ∨ Own D t.mem c := by
  rintro c ⟨i, p, hp, hl, hc⟩
  rcases split i p hp with ⟨hi, hp'⟩ | ⟨rfl, rfl⟩
  ·rw [hσ i hi] at hc; exact .inr ⟨i, p, hp', hl, hc⟩
  ·rw [hσn] at hc; exact .inl hc.symm
 have hrep : MRep num E (t.mem ++ [mapObj es]) := by
  refine ⟨by show _ = D.n + 1; simp [hlen], fun i p hp => ?_, fun i j p p2 hp hp2 hl1 hl2 he => ?_, fun c hc hI => ?_, hm.bd, hm.glo⟩
  ·rcases split i p hp with ⟨hi, hp'⟩ | ⟨rfl, rfl⟩
   ·exact zkg ht (hσ i hi) (fun _ h => h) (hm.obj i p hp')
   ·obtain ⟨es', clk, h1, h2, h3⟩ := B.row
    refine ⟨es', clk, by rw [hσn]; exact h1, by simpa using h2, fun j p x hp hx => ?_⟩
    rw [List.getElem?_map, Option.map_eq_some_iff] at hp
    obtain ⟨pp, hpp, rfl⟩ := hp
    obtain ⟨h4, h5⟩ := h3 j pp x hpp hx
    obtain ⟨h6, h7⟩ := B.one pp (List.mem_of_getElem? hpp)
    exact ⟨by rw [h4]; exact .imm _ _ (.val _ h6), by rw [h5]; exact .imm _ _ (.val _ h7)⟩
  ·rcases split i p hp with ⟨hi, hp'⟩ | ⟨rfl, rfl⟩ <;> rcases split j p2 hp2 with ⟨hj, hp2'⟩ | ⟨rfl, rfl⟩
   ·rw [hσ i hi, hσ j hj] at he; exact hm.inj i j p p2 hp' hp2' hl1 hl2 he
   ·rw [hσ i hi, hσn] at he; exact absurd ⟨i, p, hp', hl1, he⟩ B.no
   ·rw [hσ j hj, hσn] at he; exact absurd ⟨j, p2, hp2', hl2, he.symm⟩ B.no
   ·exact .inl rfl
  ·rcases hown c hc with rfl | h'
   ·exact B.imm hI
   ·exact hm.imm c h' hI
 refine ⟨E, rfl, ⟨hrep, fun u => ?_, by show t.k ≤ (t.mem ++ [mapObj es]).length; have := h.rep.k; simp; omega⟩, ⟨hrep, h.step.os, h.step.tape, h.step.out, h.step.size, h.step.keep, h.step.sz, h.step.imm, h.step.imm', fun c hc => ?_, fun i hi p hp hmv => ?_, ?_⟩, h.k, h.size, h.marks⟩
 ·show ARep num E (Env.get ((q, .omap t.mem.length) :: t.env) u) _
  simp only [Env.get]
  split
  ·rename_i hu
   subst hu
   rw [hq, ← hσn, ← hlen]
   exact .omap _ (by show _ < D.n + 1; omega)
  ·exact (h.rep.env u).mono ht
 ·rcases hown c hc with rfl | h'
  ·exact B.own0
  ·exact h.step.own c h'
 ·have hk := h.rep.k
  rw [h.k] at hk
  rcases split i p hp with ⟨hi', hp'⟩ | ⟨rfl, rfl⟩
  ·obtain ⟨o, h1, h2, h3⟩ := h.step.same i hi p hp' hmv
   exact ⟨o, h1, h2, by rw [hσ i hi']; exact h3⟩
  ·omega
 ·show k ≤ (t.mem ++ [mapObj es]).length
  have := h.step.len
  simp; omega
theorem zlb {n id : Nat} (h : id < n) : place (List.range n) id = some id := zla _ _ _ List.nodup_range (by simp [h])
theorem under {C0 E : Cx} {m0 : Mem} {k : Nat} {a0 a' : Act} {t t1 u : St} {es : List (Value × Value)} (h : Later num k C0 m0 a0 E u a') (hum : u.mem = t.mem ++ [mapObj es]) (hk : u.k = t.k) (htk : t.k ≤ t.mem.length) (h1 : t1.mem = t.mem) (h1k : t1.k = t.k)
  (henv : ∀ w, t1.env.get w = u.env.get w ∨ t1.env.get w = .junk) (hrefs : ∀ w, ∀ id ∈ (t1.env.get w).refs, id < t.mem.length) (hobj : ∀ (i : Nat) o, t.mem[i]? = some o → ∀ j ∈ o.refs, j < t.mem.length) (hone : ∀ p ∈ es, p.1.oneCell' = true ∧ p.2.oneCell' = true) :
  ∃ F, F.w = E.w ∧ Later num k C0 m0 a0 F t1 a' ∧ Box C0 m0 F t1.mem (E.σ t.mem.length) es := by
 have hm := h.rep.mem
 have hl : (List.range t.mem.length).length = t.mem.length := List.length_range
 have hmn : (u.mem)[t.mem.length]? = some (mapObj es) := by rw [hum, List.getElem?_append_right (Nat.le_refl _)]; simp
 have hpick : u.mem.pickAll (List.range t.mem.length) = t.mem := by
  refine List.ext_getElem? fun i => ?_
  rw [Mem.pickAll, List.getElem?_map]
  rcases Nat.lt_or_ge i t.mem.length with hi | hi
  ·rw [List.getElem?_range hi]
   simp only [Option.map_some]
   have hq : u.mem[i]? = some t.mem[i] := by rw [hum, List.getElem?_append_left hi]; exact List.getElem?_eq_getElem hi
   rw [hq, List.getElem?_eq_getElem hi]
   simp only [Option.getD_some, Option.some.injEq]
   exact zju fun j hj => zlb (hobj i _ (List.getElem?_eq_getElem hi) j hj)
  ·rw [List.getElem?_eq_none (by simpa using hi), List.getElem?_eq_none hi]; rfl
 have hpl := zk1 h.rep (l := List.range t.mem.length) List.nodup_range (fun i hi => by rw [List.getElem?_range (by omega)]) (by rw [hl]; omega)
 rw [hpick] at hpl
 have hst := hpl.step
 have hF : Later num k C0 m0 a0 (E.pick (List.range t.mem.length)) t1 a' := by
  have h2 := h.trans (by rw [h.k] at hpl; exact hpl)
  refine ⟨⟨by rw [h1]; exact h2.rep.mem, fun w => ?_, by rw [h1, h1k]; exact htk⟩, by rw [h1]; exact h2.step, by rw [h1k, ← hk]; exact h.k, h2.size, h2.marks⟩
  rcases henv w with hw | hw
  ·have h3 := (h.rep.env w).tr (zk6 (C := E) (List.range t.mem.length))
   rw [← hw, ren_id fun id hid => zlb (hrefs w id hid)] at h3
   exact h3
  ·rw [hw]; exact .junk _
 obtain ⟨es', clk, h3, h4, h5⟩ := hm.obj _ _ hmn
 have hlive : (mapObj es).live = true := rfl
 have hownb : Own E u.mem (E.σ t.mem.length) := ⟨_, _, hmn, hlive, rfl⟩
 refine ⟨E.pick (List.range t.mem.length), rfl, hF, h.step.own _ hownb, (Array.getElem?_eq_some_iff.1 h3).1, ⟨es', clk, h3, by simpa using h4, fun j p x hp hx => ?_⟩, fun hI => hm.imm _ hownb hI, fun ho => ?_, hone⟩
 ·obtain ⟨h6, h7⟩ := h5 j (.imm (.val p.1), .imm (.val p.2)) x (by rw [List.getElem?_map, hp]; rfl) hx
  exact ⟨zmx h6, zmx h7⟩
 ·rw [h1] at ho
  have ho2 : Own (E.pick (List.range t.mem.length)) (u.mem.pickAll (List.range t.mem.length)) (E.σ t.mem.length) := by rw [hpick]; exact ho
  obtain ⟨id, o, hid, ho', hlv, hb⟩ := zk2 ho2
  have hid' := List.mem_range.1 hid
  rcases hm.inj id t.mem.length o _ ho' hmn hlv hlive hb with h6 | h6
  ·omega
  ·cases o <;> cases h6
end
end Go.EX


set_option linter.unusedVariables false
set_option linter.unusedSimpArgs false
namespace Go.EX
section
variable {num : Names} {P : Program}
def Fills (y n : Value) : Bool → Bool → List (Value × Value) → Prop
 | false, false, es => es = []
 | true, false, es => es = [(.bool true, y)]
 | false, true, es => es = [(.bool false, n)]
 | true, true, es => es = [(.bool true, y), (.bool false, n)] ∨ es = [(.bool false, n), (.bool true, y)]
theorem ze4 {y n : Value} {b : Bool} {es : List (Value × Value)} (h : Fills y n false b es) (m : Mem) : findK m 1 (.imm (.val (.bool true))) (es.map fun p => (AV.imm (.val p.1), AV.imm (.val p.2))) 0 = some none := by
 cases b <;> (simp only [Fills] at h; subst h; rfl)
theorem ze5 {y n : Value} {b : Bool} {es : List (Value × Value)} (h : Fills y n b false es) (m : Mem) : findK m 1 (.imm (.val (.bool false))) (es.map fun p => (AV.imm (.val p.1), AV.imm (.val p.2))) 0 = some none := by
 cases b <;> (simp only [Fills] at h; subst h; rfl)
theorem ze8 {y n : Value} {b : Bool} {es : List (Value × Value)} (h : Fills y n false b es) : Fills y n true b (es ++ [(.bool true, y)]) := by
 cases b <;> (simp only [Fills] at h ⊢; subst h; simp)
theorem ze9 {y n : Value} {b : Bool} {es : List (Value × Value)} (h : Fills y n b false es) : Fills y n b true (es ++ [(.bool false, n)]) := by
 cases b <;> (simp only [Fills] at h ⊢; subst h; simp)
theorem ze6 {y n : Value} {es : List (Value × Value)} (h : Fills y n true true es) (m : Mem) (t : Bool) : ∃ i, findK m 1 (.imm (.val (.bool t))) (es.map fun p => (AV.imm (.val p.1), AV.imm (.val p.2))) 0 = some (some i) ∧ ∃ p, (es.map fun p => (AV.imm (.val p.1), AV.imm (.val p.2)))[i]? = some p ∧ p.2 = .imm (.val (if t then y else n)) := by
 simp only [Fills] at h
 rcases h with rfl | rfl <;> cases t
 ·exact ⟨1, rfl, _, rfl, rfl⟩
 ·exact ⟨0, rfl, _, rfl, rfl⟩
 ·exact ⟨0, rfl, _, rfl, rfl⟩
 ·exact ⟨1, rfl, _, rfl, rfl⟩
theorem ze7 {y n : Value} (hy : y.oneCell' = true) (hn : n.oneCell' = true) {a b : Bool} {es : List (Value × Value)} (h : Fills y n a b es) : ∀ p ∈ es, p.1.oneCell' = true ∧ p.2.oneCell' = true := by
 intro p hp
 cases a <;> cases b <;> simp only [Fills] at h
 ·subst h; cases hp
 ·subst h; rw [List.mem_singleton.1 hp]; exact ⟨rfl, hn⟩
 ·subst h; rw [List.mem_singleton.1 hp]; exact ⟨rfl, hy⟩
 ·rcases h with rfl | rfl <;> (simp at hp; rcases hp with rfl | rfl <;> first | exact ⟨rfl, hy⟩ | exact ⟨rfl, hn⟩)
variable {call : Calls'} {N : Nat} {ops : Array Oper} {zs : List XO} {n : Nat} {s0 sF : St} {S : Nat → St} {sp : Nat → Bool}
def LJ (l : LitAt) (C0 : Cx) (m0 : Mem) (listed : Array Bool) (D : Cx) (t : St) (a : Act) : Prop :=
 listed.getD l.im true = true → ∃ b es, Box C0 m0 D t.mem b es ∧ a.tmps.getD l.tA undef = .map (some b) ∧ (listed.getD l.iv true = true → a.tmps.getD l.tM undef = .map (some b)) ∧ Fills l.y l.n (listed.getD l.i1 true) (listed.getD l.i2 true) es
structure LitSpec (l : LitAt) (ops : Array Oper) (zs : List XO) (n : Nat) (z : List Value) (k : Src) (tL : Nat) : Prop where
 xA : zs[l.im]? = some ⟨some l.tA, .litA, none⟩
 x1 : zs[l.i1]? = some ⟨none, .litI 1 (.t l.tA) (.c (.bool true)) (.c l.y), none⟩
 x2 : zs[l.i2]? = some ⟨none, .litI 1 (.t l.tA) (.c (.bool false)) (.c l.n), none⟩
 xM : zs[l.iv]? = some ⟨some l.tM, .litM (.t l.tA), none⟩
 xL : zs[l.il]? = some ⟨some tL, .litL 1 z (.t l.tM) k l.y l.n, none⟩
 hy : l.y.oneCell' = true
 hn : l.n.oneCell' = true
 ltA : l.im < n
 lt1 : l.i1 < n
 lt2 : l.i2 < n
 ltM : l.iv < n
 ltL : l.il < n
 ne : l.im ≠ l.i1 ∧ l.im ≠ l.i2 ∧ l.im ≠ l.iv ∧ l.im ≠ l.il ∧ l.i1 ≠ l.i2 ∧ l.i1 ≠ l.iv ∧ l.i1 ≠ l.il ∧ l.i2 ≠ l.iv ∧ l.i2 ≠ l.il ∧ l.iv ≠ l.il ∧ l.tA ≠ l.tM
 w1 : Region.waitsFor .any ops l.i1 l.im = true
 w2 : Region.waitsFor .any ops l.i2 l.im = true
 wM : Region.waitsFor .any ops l.iv l.im = true
 wM1 : Region.waitsFor .any ops l.iv l.i1 = true
 wM2 : Region.waitsFor .any ops l.iv l.i2 = true
 wL : Region.waitsFor .any ops l.il l.iv = true
theorem zoq {listed : Array Bool} {i j : Nat} (h : j ≠ i) : (listed.setIfInBounds i true).getD j true = listed.getD j true := getD_set_ne true (Ne.symm h)
theorem zor {listed : Array Bool} {i : Nat} : (listed.setIfInBounds i true).getD i true = true := by
 rw [Array.getD_eq_getD_getElem?, Array.getElem?_setIfInBounds]
 split <;> (try split) <;> simp_all
theorem zlx (a : Act) (d : Option Tmp) (v w : Value) (u : Nat) (h : d ≠ some u) : (a.put d v).tmps.getD u w = a.tmps.getD u w := by
 cases d with
 | none => rfl
 | some d =>
  have : d ≠ u := fun e => h (by rw [e])
  simp only [Act.put, Array.getD_eq_getD_getElem?, Array.getElem?_setIfInBounds]
  rw [if_neg this]
theorem obj_lt {C : Cx} {s : St} {a : Act} (hs : SRep num C s a) : ∀ (i : Nat) o, s.mem[i]? = some o → ∀ j ∈ o.refs, j < s.mem.length := fun i o ho j hj => by
 have := zkf (hs.mem.obj i o ho) j hj
 have := hs.mem.len
 omega
theorem env_lt {C : Cx} {s : St} {a : Act} (hs : SRep num C s a) (w : Nat) : ∀ id ∈ (s.env.get w).refs, id < s.mem.length := fun id hid => by
 have := za6 (hs.env w) id hid
 have := hs.mem.len
 omega
theorem zii {ro : Option Nat} (d : Drawn call P num N ops (zs.map XO.unlit) n s0 sF S sp) (hcall : CallOK num P call) {k : Nat} {C : Cx} {m : Mem} {a0 : Act} {l : LitAt}
  {listed : Array Bool} {t : St} {i : Nat} {o : Oper} {x : XO} (hi : i < n) (hr : i ∈ Region.ready .any ops listed) (p : Part (zs.map XO.unlit) n S listed t) {D : Cx} {a : Act} (hlat : Later num k C m a0 D t a) (hx : zs[i]? = some x) (hxc : ∀ fn as, x.op.unlit ≠ .call .own fn as)
  {K : Act → World → Prop} (hK : ∀ F t2 a', Later num k C m a0 F t2 a' → Part (zs.map XO.unlit) n S (listed.setIfInBounds i true) t2 → LJ l C m (listed.setIfInBounds i true) F t2 a' → K a' F.w) :
  ∃ t1, exOne call t x.unlit = some t1 ∧ ∀ F a', Later num k C m a0 F t1 a' → LJ l C m (listed.setIfInBounds i true) F t1 a' → K a' F.w := by
 have hx' : (zs.map XO.unlit)[i]? = some x.unlit := by rw [List.getElem?_map, hx]; rfl
 obtain ⟨t1, h1, hnext⟩ := d.part_step (o := o) hcall p hi hr hx' (fun fn as h => absurd h (hxc fn as)) hlat.rep
 refine ⟨t1, h1, fun F a' hl hj => ?_⟩
 obtain ⟨t2, G, hw, hl2, p2⟩ := hnext F a' hl.rep
 rw [← hw]
 refine hK G t2 a' (hl.trans (by rw [hl.k] at hl2; exact hl2)) p2 fun him => ?_
 obtain ⟨b, es, B, hA, hM, hf⟩ := hj him
 exact ⟨b, es, B.keep hl2.step, hA, hM, hf⟩
theorem lit_wp {ro : Option Nat} {l : LitAt} {z : List Value} {kS : Src} {tL : Nat} (L : LitSpec l ops zs n z kS tL) (d : Drawn call P num N ops (zs.map XO.unlit) n s0 sF S sp) (hsp : ∀ i, sp i = true → i = l.im ∨ i = l.i1 ∨ i = l.i2 ∨ i = l.iv ∨ i = l.il) (htr : ∀ (i : Nat) o, ops[i]? = some o → ∃ x, zs[i]? = some x ∧ trOper P num N ops o = some x.wipe) (hcall : CallOK num P call) {Q : Exit → Act → World → Prop} {k : Nat} {C : Cx} {m : Mem} {a0 : Act} (hN : N ≤ a0.tmps.size)
  (listed : Array Bool) (D : Cx) (t : St) (a : Act) (i : Nat) (o : Oper) (hi : i < n) (hspi : sp i = true) (inv : HeadInv .any ops n listed) (hr : i ∈ Region.ready .any ops listed) (ho : ops[i]? = some o) (p : Part (zs.map XO.unlit) n S listed t) (hlat : Later num k C m a0 D t a) (hj : LJ l C m listed D t a) (K : Act → World → Prop)
  (hK : ∀ F t2 a', Later num k C m a0 F t2 a' → Part (zs.map XO.unlit) n S (listed.setIfInBounds i true) t2 → LJ l C m (listed.setIfInBounds i true) F t2 a' → K a' F.w) :
  if Region.wanted o (yielded ops a.tmps) then o.wpIn (fz ro) 0 P a D.w K Q else (∀ f, o.about P D.w a.eval = some f → (fz ro).fn f) ∧ K (a.put o.dst undef) D.w := by
 have hun : listed.getD i true = false := (mem_ready.1 hr).1
 have hNa : N ≤ a.tmps.size := by rw [hlat.size]; exact hN
 have htk := hlat.rep.k
 have hol := obj_lt hlat.rep
 have hel := env_lt hlat.rep
 have up : ∀ j j', Region.waitsFor .any ops j j' = true → listed.getD j false = true → listed.getD j' false = true := by
  intro j j' hw hl
  obtain ⟨o', ho', e, he, hb, hon⟩ := Region.waitsFor_spec hw
  rw [← hon]
  exact inv.closed j o' ho' hl e he hb
 have junkA : listed.getD l.im true = true → t.env.get l.tA = .junk := by
  intro h
  have hx' : (zs.map XO.unlit)[l.im]? = some ⟨some l.tA, .junk, none⟩ := by rw [List.getElem?_map, L.xA]; rfl
  rw [(p.done l.im _ l.tA L.ltA hx' rfl h).1]
  have := d.step l.im _ L.ltA hx'
  simp only [exOne, exOp, Option.map_some, Option.some.injEq] at this
  rw [← this]
  simp [Env.get]
 have junkM : listed.getD l.iv true = true → t.env.get l.tM = .junk := by
  intro h
  have hx' : (zs.map XO.unlit)[l.iv]? = some ⟨some l.tM, .junk, none⟩ := by rw [List.getElem?_map, L.xM]; rfl
  rw [(p.done l.iv _ l.tM L.ltM hx' rfl h).1]
  have := d.step l.iv _ L.ltM hx'
  simp only [exOne, exOp, Option.map_some, Option.some.injEq] at this
  rw [← this]
  simp [Env.get]
 obtain ⟨x, hx, htro⟩ := htr i o ho
 obtain ⟨n1, n2, n3, n4, n5, n6, n7, n8, n9, n10, n11⟩ := L.ne
 rcases hsp i hspi with rfl | rfl | rfl | rfl | rfl
 ·
  rw [L.xA] at hx
  cases hx
  obtain ⟨t1, h1, hgo⟩ := zii (ro := ro) (o := o) (l := l) d hcall hi hr p hlat L.xA (fun _ _ h => by cases h) hK
  have ht1 : t1 = { t with env := (l.tA, .junk) :: t.env } := by
   simp only [XO.unlit, XOp.unlit, exOne, exOp, Option.map_some, Option.some.injEq] at h1
   exact h1.symm
  subst ht1
  have hex : exOne call t ⟨some l.tA, .makeMap none, none⟩ = some { k := t.k, env := (l.tA, .omap t.mem.length) :: t.env, mem := t.mem ++ [mapObj []] } := rfl
  refine one_wp (x := ⟨some l.tA, .makeMap none, none⟩) hcall htro hlat.rep hNa hex fun E a' hl' hput => ?_
  have hu := hlat.trans (by rw [hlat.k] at hl'; exact hl')
  obtain ⟨F, hw, hF, hB⟩ := under (t := t) (t1 := { t with env := (l.tA, .junk) :: t.env }) (es := []) hu rfl hlat.k.symm htk rfl rfl (fun w => by
   by_cases hw : w = l.tA
   ·right; subst hw; simp [Env.get]
   ·left; simp [Env.get, hw]) (fun w id hid => by
   by_cases hw : w = l.tA
   ·subst hw; simp [Env.get, AV.refs] at hid
   ·simp only [Env.get, if_neg hw] at hid; exact hel w id hid) hol (fun p hp => by cases hp)
  rw [← hw]
  have hA : a'.tmps.getD l.tA undef = .map (some (E.σ t.mem.length)) := by
   have := hu.rep.env l.tA
   simp only [Env.get, if_true] at this
   generalize a'.tmps.getD l.tA undef = v at *
   cases this
   rfl
  have hnot : ∀ j, Region.waitsFor .any ops j l.im = true → listed.getD j true = false := fun j hwj => by
   cases hc : listed.getD j true with
   | false => rfl
   | true =>
    have hjs : j < listed.size := by
     obtain ⟨o', ho', _⟩ := Region.waitsFor_spec hwj
     rw [inv.size]; exact (Array.getElem?_eq_some_iff.1 ho').1
    have hcf : listed.getD j false = true := by simp [hjs] at hc ⊢; exact hc
    have := zf7 (up j l.im hwj hcf)
    rw [hun] at this; cases this
  refine hgo F a' hF fun _ => ⟨_, [], hB, hA, fun hv => ?_, ?_⟩
  ·rw [zoq (Ne.symm n3), hnot _ L.wM] at hv; cases hv
  ·rw [zoq (Ne.symm n1), zoq (Ne.symm n2), hnot _ L.w1, hnot _ L.w2]; rfl
 ·
  rw [L.x1] at hx
  cases hx
  obtain ⟨t1, h1, hgo⟩ := zii (ro := ro) (o := o) (l := l) d hcall hi hr p hlat L.x1 (fun _ _ h => by cases h) hK
  have ht1 : t1 = t := by
   simp only [XO.unlit, XOp.unlit, exOne, exOp, Option.map_some, Option.some.injEq] at h1
   exact h1.symm
  subst ht1
  have him := zf7 (zmb hr L.w1)
  obtain ⟨b, es, B, hA, hM, hf⟩ := hj him
  rw [hun] at hf
  obtain ⟨Ev, hEw, hov⟩ := over (q := l.tA) hlat B hA
  have hex : exOne call (ov t1 l.tA es) ⟨none, .mapSet 1 (.t l.tA) (.c (.bool true)) (.c l.y), none⟩ = some { ov t1 l.tA es with mem := t1.mem ++ [mapObj (es ++ [(.bool true, l.y)])] } := by
   have hg : (ov t1 l.tA es).mem[t1.mem.length]? = some (mapObj es) := by simp [ov]
   have hfd := ze4 hf (ov t1 l.tA es).mem
   have hset : (ov t1 l.tA es).mem.set t1.mem.length (mapObj (es ++ [(.bool true, l.y)])) = t1.mem ++ [mapObj (es ++ [(.bool true, l.y)])] := by simp [ov, List.set_append]
   have he : (ov t1 l.tA es).env.ev (.t l.tA) = .omap t1.mem.length := by simp [ov, Env.ev, Env.get]
   have hc1 : (ov t1 l.tA es).env.ev (.c (.bool true)) = .imm (.val (.bool true)) := rfl
   have hc2 : (ov t1 l.tA es).env.ev (.c l.y) = .imm (.val l.y) := rfl
   rw [mapObj] at hg
   rw [← hset]
   simp only [exOne, exOp, he, hc1, hc2, isKeyAV, if_true, hg, hfd, Option.map_some, mapObj, List.map_append, List.map_cons, List.map_nil]
  rw [← hEw]
  refine one_wp (x := ⟨none, .mapSet 1 (.t l.tA) (.c (.bool true)) (.c l.y), none⟩) hcall htro hov.rep hNa hex fun E a' hl' hput => ?_
  have hu := hov.trans (by rw [hov.k] at hl'; exact hl')
  have hf2 := ze8 hf
  obtain ⟨F, hw, hF, hB⟩ := under (t := t1) (t1 := t1) (es := es ++ [(.bool true, l.y)]) hu rfl rfl htk rfl rfl (fun w => by
   by_cases hw : w = l.tA
   ·right; subst hw; exact junkA him
   ·left; simp [ov, Env.get, hw]) hel hol (ze7 L.hy L.hn hf2)
  rw [← hw]
  have hA' : a'.tmps.getD l.tA undef = .map (some (E.σ t1.mem.length)) := by
   have := hu.rep.env l.tA
   simp only [ov, Env.get, if_true] at this
   generalize a'.tmps.getD l.tA undef = v at *
   cases this
   rfl
  obtain ⟨vv, hput⟩ := hput
  have hAA : a'.tmps.getD l.tA undef = a.tmps.getD l.tA undef := by rw [hput]; exact zlx a _ _ _ _ (by rw [← (zp7 htro).2.2.1]; intro h; cases h)
  have hb : b = E.σ t1.mem.length := by rw [hAA, hA] at hA'; cases hA'; rfl
  refine hgo F a' hF fun _ => ⟨_, _, hB, hA', fun hv => ?_, ?_⟩
  ·rw [zoq (Ne.symm n6)] at hv
   rw [hput, zlx a _ _ _ _ (by rw [← (zp7 htro).2.2.1]; intro h; cases h), hM hv, hb]
  ·rw [zor, zoq (Ne.symm n5)]; exact hf2
 ·
  rw [L.x2] at hx
  cases hx
  obtain ⟨t1, h1, hgo⟩ := zii (ro := ro) (o := o) (l := l) d hcall hi hr p hlat L.x2 (fun _ _ h => by cases h) hK
  have ht1 : t1 = t := by
   simp only [XO.unlit, XOp.unlit, exOne, exOp, Option.map_some, Option.some.injEq] at h1
   exact h1.symm
  subst ht1
  have him := zf7 (zmb hr L.w2)
  obtain ⟨b, es, B, hA, hM, hf⟩ := hj him
  rw [hun] at hf
  obtain ⟨Ev, hEw, hov⟩ := over (q := l.tA) hlat B hA
  have hex : exOne call (ov t1 l.tA es) ⟨none, .mapSet 1 (.t l.tA) (.c (.bool false)) (.c l.n), none⟩ = some { ov t1 l.tA es with mem := t1.mem ++ [mapObj (es ++ [(.bool false, l.n)])] } := by
   have hg : (ov t1 l.tA es).mem[t1.mem.length]? = some (mapObj es) := by simp [ov]
   have hfd := ze5 hf (ov t1 l.tA es).mem
   have hset : (ov t1 l.tA es).mem.set t1.mem.length (mapObj (es ++ [(.bool false, l.n)])) = t1.mem ++ [mapObj (es ++ [(.bool false, l.n)])] := by simp [ov, List.set_append]
   have he : (ov t1 l.tA es).env.ev (.t l.tA) = .omap t1.mem.length := by simp [ov, Env.ev, Env.get]
   have hc1 : (ov t1 l.tA es).env.ev (.c (.bool false)) = .imm (.val (.bool false)) := rfl
   have hc2 : (ov t1 l.tA es).env.ev (.c l.n) = .imm (.val l.n) := rfl
   rw [mapObj] at hg
   rw [← hset]
   simp only [exOne, exOp, he, hc1, hc2, isKeyAV, if_true, hg, hfd, Option.map_some, mapObj, List.map_append, List.map_cons, List.map_nil]
  rw [← hEw]
  refine one_wp (x := ⟨none, .mapSet 1 (.t l.tA) (.c (.bool false)) (.c l.n), none⟩) hcall htro hov.rep hNa hex fun E a' hl' hput => ?_
  have hu := hov.trans (by rw [hov.k] at hl'; exact hl')
  have hf2 := ze9 hf
  obtain ⟨F, hw, hF, hB⟩ := under (t := t1) (t1 := t1) (es := es ++ [(.bool false, l.n)]) hu rfl rfl htk rfl rfl (fun w => by
   by_cases hw : w = l.tA
   ·right; subst hw; exact junkA him
   ·left; simp [ov, Env.get, hw]) hel hol (ze7 L.hy L.hn hf2)
  rw [← hw]
  have hA' : a'.tmps.getD l.tA undef = .map (some (E.σ t1.mem.length)) := by
   have := hu.rep.env l.tA
   simp only [ov, Env.get, if_true] at this
   generalize a'.tmps.getD l.tA undef = v at *
   cases this
   rfl
  obtain ⟨vv, hput⟩ := hput
  have hAA : a'.tmps.getD l.tA undef = a.tmps.getD l.tA undef := by rw [hput]; exact zlx a _ _ _ _ (by rw [← (zp7 htro).2.2.1]; intro h; cases h)
  have hb : b = E.σ t1.mem.length := by rw [hAA, hA] at hA'; cases hA'; rfl
  refine hgo F a' hF fun _ => ⟨_, _, hB, hA', fun hv => ?_, ?_⟩
  ·rw [zoq (Ne.symm n8)] at hv
   rw [hput, zlx a _ _ _ _ (by rw [← (zp7 htro).2.2.1]; intro h; cases h), hM hv, hb]
  ·rw [zoq n5, zor]; exact hf2
 ·
  rw [L.xM] at hx
  cases hx
  obtain ⟨t1, h1, hgo⟩ := zii (ro := ro) (o := o) (l := l) d hcall hi hr p hlat L.xM (fun _ _ h => by cases h) hK
  have ht1 : t1 = { t with env := (l.tM, .junk) :: t.env } := by
   simp only [XO.unlit, XOp.unlit, exOne, exOp, Option.map_some, Option.some.injEq] at h1
   exact h1.symm
  subst ht1
  have him := zf7 (zmb hr L.wM)
  have hi1 := zf7 (zmb hr L.wM1)
  have hi2 := zf7 (zmb hr L.wM2)
  obtain ⟨b, es, B, hA, hM, hf⟩ := hj him
  obtain ⟨Ev, hEw, hov⟩ := over (q := l.tA) hlat B hA
  have hex : exOne call (ov t l.tA es) ⟨some l.tM, .mv (.t l.tA), none⟩ = some { ov t l.tA es with env := (l.tM, .omap t.mem.length) :: (ov t l.tA es).env } := by
   simp [exOne, exOp, ov, Env.ev, Env.get]
  rw [← hEw]
  refine one_wp (x := ⟨some l.tM, .mv (.t l.tA), none⟩) hcall htro hov.rep hNa hex fun E a' hl' hput => ?_
  have hu := hov.trans (by rw [hov.k] at hl'; exact hl')
  obtain ⟨F, hw, hF, hB⟩ := under (t := t) (t1 := { t with env := (l.tM, .junk) :: t.env }) (es := es) hu rfl rfl htk rfl rfl (fun w => by
   by_cases hw : w = l.tM
   ·right; subst hw; simp [Env.get]
   ·by_cases hw2 : w = l.tA
    ·right; subst hw2; simp only [Env.get, if_neg n11]; exact junkA him
    ·left; simp [ov, Env.get, hw, hw2]) (fun w id hid => by
   by_cases hw : w = l.tM
   ·subst hw; simp [Env.get, AV.refs] at hid
   ·simp only [Env.get, if_neg hw] at hid; exact hel w id hid) hol (ze7 L.hy L.hn hf)
  rw [← hw]
  have hA' : a'.tmps.getD l.tA undef = .map (some (E.σ t.mem.length)) := by
   have := hu.rep.env l.tA
   simp only [ov, Env.get, if_neg n11, if_true] at this
   generalize a'.tmps.getD l.tA undef = v at *
   cases this
   rfl
  have hM' : a'.tmps.getD l.tM undef = .map (some (E.σ t.mem.length)) := by
   have := hu.rep.env l.tM
   simp only [ov, Env.get, if_true] at this
   generalize a'.tmps.getD l.tM undef = v at *
   cases this
   rfl
  refine hgo F a' hF fun _ => ⟨_, _, hB, hA', fun _ => hM', ?_⟩
  rw [zoq n6, zoq n8]; exact hf
 ·
  rw [L.xL] at hx
  cases hx
  obtain ⟨t1, h1, hgo⟩ := zii (ro := ro) (o := o) (l := l) d hcall hi hr p hlat L.xL (fun _ _ h => by cases h) hK
  have him := zf7 (up l.iv l.im L.wM (zmb hr L.wL))
  have hiv' := zmb hr L.wL
  have hiv := zf7 hiv'
  have hi1 := zf7 (up _ _ L.wM1 hiv')
  have hi2 := zf7 (up _ _ L.wM2 hiv')
  obtain ⟨b, es, B, hA, hM, hf⟩ := hj him
  rw [hi1, hi2] at hf
  obtain ⟨Ev, hEw, hov⟩ := over (q := l.tM) hlat B (hM hiv)
  obtain ⟨tt, hkey, ht1⟩ : ∃ tt, t.env.ev kS = .imm (.val (.bool tt)) ∧ t1 = { t with env := (tL, .imm (.val (if tt then l.y else l.n))) :: t.env } := by
   simp only [XO.unlit, XOp.unlit, exOne, exOp, Option.map_eq_some_iff] at h1
   obtain ⟨vv, h2, h3⟩ := h1
   split at h2
   ·rename_i tt hk
    cases h2
    exact ⟨tt, hk, by rw [← h3]; cases tt <;> rfl⟩
   ·cases h2
  subst ht1
  obtain ⟨j, hfd, pp, hpp, hp2⟩ := ze6 hf (ov t l.tM es).mem tt
  have hkov : (ov t l.tM es).env.ev kS = .imm (.val (.bool tt)) := by
   cases kS with
   | t u =>
    have hu : u ≠ l.tM := by
     intro e
     subst e
     simp only [Env.ev] at hkey
     rw [junkM hiv] at hkey; cases hkey
    simp only [Env.ev, ov, Env.get, if_neg hu] at hkey ⊢
    exact hkey
   | c v => exact hkey
   | f g => cases hkey
  have hex : exOne call (ov t l.tM es) ⟨some tL, .lookup 1 z false (.t l.tM) kS false, none⟩ = some { ov t l.tM es with env := (tL, .imm (.val (if tt then l.y else l.n))) :: (ov t l.tM es).env } := by
   have hg : (ov t l.tM es).mem[t.mem.length]? = some (.map (es.map fun p => (AV.imm (.val p.1), AV.imm (.val p.2)))) := by simp [ov, mapObj]
   have he : (ov t l.tM es).env.ev (.t l.tM) = .omap t.mem.length := by simp [ov, Env.ev, Env.get]
   simp only [exOne, exOp, he, hkov, isKeyAV, if_true]
   rw [hg]
   simp only [hfd, hpp, Option.map_some, hp2]
   rfl
  rw [← hEw]
  refine one_wp (x := ⟨some tL, .lookup 1 z false (.t l.tM) kS false, none⟩) hcall htro hov.rep hNa hex fun E a' hl' hput => ?_
  have hu := hov.trans (by rw [hov.k] at hl'; exact hl')
  obtain ⟨vv, hput⟩ := hput
  have hdst : o.dst = some tL := (zp7 htro).2.2.1.symm
  have hx1 : (zs.map XO.unlit)[l.il]? = some ⟨some tL, .pick kS (.c l.y) (.c l.n), none⟩ := by rw [List.getElem?_map, L.xL]; rfl
  have hxA : (zs.map XO.unlit)[l.im]? = some ⟨some l.tA, .junk, none⟩ := by rw [List.getElem?_map, L.xA]; rfl
  have hxM : (zs.map XO.unlit)[l.iv]? = some ⟨some l.tM, .junk, none⟩ := by rw [List.getElem?_map, L.xM]; rfl
  have hLA : tL ≠ l.tA := by
   intro e
   rcases (d.one l.il l.im _ _ l.tA L.ltL L.ltA hx1 hxA rfl).1 with h | h
   ·exact n4 h.symm
   ·exact h (by rw [e])
  have hLM : tL ≠ l.tM := by
   intro e
   rcases (d.one l.il l.iv _ _ l.tM L.ltL L.ltM hx1 hxM rfl).1 with h | h
   ·exact n10 h.symm
   ·exact h (by rw [e])
  obtain ⟨F, hw, hF, hB⟩ := under (t := t) (t1 := { t with env := (tL, .imm (.val (if tt then l.y else l.n))) :: t.env }) (es := es) hu rfl rfl htk rfl rfl (fun w => by
   by_cases hw : w = tL
   ·left; subst hw; simp [Env.get]
   ·by_cases hw2 : w = l.tM
    ·right; subst hw2; simp only [Env.get, if_neg (Ne.symm hLM)]; exact junkM hiv
    ·left; simp [ov, Env.get, hw, hw2]) (fun w id hid => by
   by_cases hw : w = tL
   ·subst hw; simp [Env.get, AV.refs] at hid
   ·simp only [Env.get, if_neg hw] at hid; exact hel w id hid) hol (ze7 L.hy L.hn hf)
  rw [← hw]
  have hAA : a'.tmps.getD l.tA undef = .map (some b) := by rw [hput, zlx a _ _ _ _ (by rw [hdst]; intro h; cases h; exact hLA rfl)]; exact hA
  have hMM : a'.tmps.getD l.tM undef = .map (some b) := by rw [hput, zlx a _ _ _ _ (by rw [hdst]; intro h; cases h; exact hLM rfl)]; exact hM hiv
  have hM' : a'.tmps.getD l.tM undef = .map (some (E.σ t.mem.length)) := by
   have := hu.rep.env l.tM
   simp only [ov, Env.get, if_neg (Ne.symm hLM), if_true] at this
   generalize a'.tmps.getD l.tM undef = v at *
   cases this
   rfl
  have hb : b = E.σ t.mem.length := by rw [hMM] at hM'; cases hM'; rfl
  subst hb
  refine hgo F a' hF fun _ => ⟨_, _, hB, hAA, fun _ => hMM, ?_⟩
  rw [zoq n7, zoq n9, hi1, hi2]; exact hf
end
end Go.EX


set_option linter.unusedVariables false
set_option linter.unusedSimpArgs false
namespace Go.EX
section
variable {num : Names} {P : Program}
theorem zp9 {call : Calls'} {N : Nat} {ops : Array Oper} : ∀ (l : List Oper) (zs : List XO) {s s' : St}, trOps P num N ops l = zs.map XO.wipe → exOps call s (zs.map XO.unlit) = some s' → ∀ (i : Nat) (o : Oper), l[i]? = some o → ∃ x : XO, zs[i]? = some x ∧ trOper P num N ops o = some x.wipe
 | [], _, _, _, _, _, i, o, ho => by simp at ho
 | o :: l, zs, s, s', htr, h, i, o', hi => by
  simp only [trOps] at htr
  cases ho : trOper P num N ops o with
  | none =>
   rw [ho] at htr
   cases zs with
   | nil => simp at htr
   | cons x r =>
    simp only [List.map_cons, List.cons.injEq] at htr
    have hb : x.wipe = badOp := htr.1.symm
    have h1 : (x.op = .callV (.c (.bool true)) [] ∨ x.op = .callP (.c (.bool true)) [] ∨ ∃ w, x.op = .callT (.c (.bool true)) [] w) ∧ x.guard = none := by
     obtain ⟨d, op, g⟩ := x
     simp only [XO.wipe, badOp, XO.mk.injEq] at hb
     obtain ⟨_, h2, h3⟩ := hb
     refine ⟨?_, h3⟩
     cases op <;> simp only [XOp.wipe, reduceCtorEq] at h2
     ·exact .inl h2
     ·cases h2; exact .inr (.inl rfl)
     ·cases h2; exact .inr (.inr ⟨_, rfl⟩)
    simp only [List.map_cons, exOps] at h
    unfold exOne at h
    rcases h1.1 with h4 | h4 | ⟨_, h4⟩ <;> simp only [XO.unlit, h4, h1.2, XOp.unlit, exOp, Env.ev, Option.map_none, Option.bind_none] at h <;> cases h
  | some y =>
   rw [ho] at htr
   cases zs with
   | nil => simp at htr
   | cons x r =>
    simp only [List.map_cons, List.cons.injEq] at htr
    simp only [List.map_cons, exOps] at h
    cases hx : exOne call s x.unlit with
    | none => rw [hx] at h; cases h
    | some s1 =>
     rw [hx] at h
     cases i with
     | zero =>
      simp at hi
      subst hi
      exact ⟨x, rfl, by rw [ho, htr.1]⟩
     | succ i => exact zp9 l r htr.2 h i o' (by simpa using hi)
theorem zqh {x : XO} (h : (!(x.op.isLitA || x.op.isLitI || x.op.isLitM || x.op.isLitL)) = true) : x.unlit = x := by
 obtain ⟨d, op, g⟩ := x
 cases op <;> first | rfl | simp [XOp.isLitA, XOp.isLitI, XOp.isLitM, XOp.isLitL] at h
theorem zij {l : LitAt} {ops : Array Oper} {zs : List XO} {n : Nat} (h : l.ok ops zs n = true) : (∃ z k tL, LitSpec l ops zs n z k tL) ∧ (∀ i x, i < n → zs[i]? = some x → (i ≠ l.im ∧ i ≠ l.i1 ∧ i ≠ l.i2 ∧ i ≠ l.iv ∧ i ≠ l.il) → x.unlit = x) ∧ ∀ i x, n ≤ i → zs[i]? = some x → x.unlit = x := by
 unfold LitAt.ok at h
 simp only [Bool.and_eq_true] at h
 obtain ⟨⟨⟨⟨⟨⟨h1, h2⟩, h3⟩, h4⟩, h5⟩, h6⟩, h7⟩ := h
 refine ⟨?_, fun i x hi hx hne => ?_, fun i x hi hx => ?_⟩
 ·split at h1
  ·rename_i a b c1 d c2 f g t2 zz hh kk yy nn eA e1 e2 eM eL
   simp only [Bool.and_eq_true, beq_iff_eq] at h1
   obtain ⟨⟨⟨⟨⟨rfl, rfl⟩, rfl⟩, rfl⟩, rfl⟩, rfl⟩ := h1
   rw [e1, e2, eL] at h2
   simp only [Bool.and_eq_true] at h2
   obtain ⟨⟨o1, o2⟩, ⟨⟨v1, v2⟩, v3⟩, v4⟩ := h2
   have q1 := zq5 v1
   have q2 := zq5 v2
   have q3 := zq5 v3
   have q4 := zq5 v4
   subst q1 q2
   rw [q3, q4] at eL
   simp only [decide_eq_true_eq] at h3
   simp only [bne_iff_ne] at h4
   simp only [zj1] at o1 o2
   obtain ⟨⟨⟨⟨r1, r2⟩, r3⟩, r4⟩, r5⟩ := h3
   obtain ⟨⟨⟨⟨⟨⟨⟨⟨⟨⟨s1, s2⟩, s3⟩, s4⟩, s5⟩, s6⟩, s7⟩, s8⟩, s9⟩, s10⟩, s11⟩ := h4
   obtain ⟨⟨⟨⟨⟨w1, w2⟩, w3⟩, w4⟩, w5⟩, w6⟩ := h5
   exact ⟨_, _, _, eA, e1, e2, eM, eL, o1, o2, r1, r2, r3, r4, r5, ⟨s1, s2, s3, s4, s5, s6, s7, s8, s9, s10, s11⟩, w1, w2, w3, w4, w5, w6⟩
  ·cases h1
 ·have := List.all_eq_true.1 h6 i (List.mem_range.2 hi)
  simp only [Bool.or_eq_true, beq_iff_eq, hx] at this
  obtain ⟨m1, m2, m3, m4, m5⟩ := hne
  rcases this with ((((h | h) | h) | h) | h) | h
  ·exact absurd h m1
  ·exact absurd h m2
  ·exact absurd h m3
  ·exact absurd h m4
  ·exact absurd h m5
  ·exact zqh h
 ·refine zqh (List.all_eq_true.1 h7 x (List.mem_of_getElem? (i := i - n) ?_))
  rw [List.getElem?_drop, ← hx]
  congr 1; omega
theorem ziw {ro : Option Nat} {call : Calls'} (hcall : CallOK num P call) (hmix : P.follows .mixedOrders = true) {N id : Nat} {ops : Array Oper} {draw : Bool} {keep : List Nat} {zs : List XO} (htr : trOps P num N ops ops.toList = zs.map XO.wipe) (hd : drawsOk (.region id ops draw) (.lregion keep zs) = true) {C : Cx} {s s' : St} {a : Act} (hs : SRep num C s a) (hN : N ≤ a.tmps.size) (h : exOps call s (zs.map XO.unlit) = some s')
  {Q : Exit → Act → World → Prop} (hQ : ∀ D a', Later num s.k C s.mem a D s' a' → Q .normal a' D.w) : (Code.region id ops draw).wpIn (fz ro) 0 P Q a C.w := by
 cases draw with
 | false => simp [drawsOk] at hd
 | true =>
  simp only [drawsOk, litOk, Bool.and_eq_true, beq_iff_eq, decide_eq_true_eq] at hd
  obtain ⟨⟨⟨hok, hlt⟩, hlit⟩, hlen⟩ := hd
  generalize calmRun (zs.map XO.unlit) = n at hok hlt hlit
  obtain ⟨⟨z, kS, tL, L⟩, hin, hout⟩ := zij hlit
  generalize litAt zs = l at L hin hlit
  simp only [drawOk, Bool.and_eq_true] at hok
  obtain ⟨⟨⟨⟨k1, k2⟩, k3⟩, k4⟩, k5⟩ := hok
  have htail : n = ops.size ∨ (n < ops.size ∧ Region.sinkB .any ops n = true ∧ Region.chainB .any ops n = true) := by
   simp only [Bool.or_eq_true, beq_iff_eq, Bool.and_eq_true, decide_eq_true_eq] at k4
   rcases k4 with h | ⟨⟨h, h'⟩, h''⟩
   ·exact .inl h
   ·exact .inr ⟨h, h', h''⟩
  have hn' : n ≤ ops.size := by omega
  have hall := fun i o ho => zp9 ops.toList zs htr h i o ho
  have hS : ∀ i, ∃ t, exOps call s ((zs.map XO.unlit).take i) = some t ∧ exOps call t ((zs.map XO.unlit).drop i) = some s' := zeh _ s s' h
  obtain ⟨S, hS⟩ : ∃ S : Nat → St, ∀ i, exOps call s ((zs.map XO.unlit).take i) = some (S i) ∧ exOps call (S i) ((zs.map XO.unlit).drop i) = some s' := ⟨fun i => Classical.choose (hS i), fun i => Classical.choose_spec (hS i)⟩
  have go : ∀ (i : Nat) x, (zs.map XO.unlit)[i]? = some x → exOne call (S i) x = some (S (i + 1)) := by
   intro i x hx
   have e1 := (hS i).1
   have e2 := (hS (i + 1)).1
   have : (zs.map XO.unlit).take (i + 1) = (zs.map XO.unlit).take i ++ [x] := by
    rw [List.take_add_one, hx]; rfl
   rw [this] at e2
   exact zeg _ x s _ _ e1 e2
  have d : Drawn call P num N ops (zs.map XO.unlit) n s s' S (fun i => i == l.im || i == l.i1 || i == l.i2 || i == l.iv || i == l.il) := by
   refine ⟨by simpa using hlen, hn', fun i o hsp ho => ?_, ?_, ?_, ?_, ?_, go, ?_, fun i x _ hx => go i x hx, ?_⟩
   ·obtain ⟨x, hx, htx⟩ := hall i o (by simpa using ho)
    simp only [Bool.or_eq_false_iff, beq_eq_false_iff_ne] at hsp
    have hux : x.unlit = x := by
     rcases Nat.lt_or_ge i n with h1 | h1
     ·exact hin i x h1 hx ⟨hsp.1.1.1.1, hsp.1.1.1.2, hsp.1.1.2, hsp.1.2, hsp.2⟩
     ·exact hout i x h1 hx
    exact ⟨x, by rw [List.getElem?_map, hx]; simp [hux], htx⟩
   ·intro i x hi hx
    refine List.all_eq_true.1 k1 x (List.mem_of_getElem? (i := i) ?_)
    rw [List.getElem?_take, if_pos hi]; exact hx
   ·intro i j x y d hi hj hx hy hyd
    have := List.all_eq_true.1 (List.all_eq_true.1 k2 i (List.mem_range.2 hi)) j (List.mem_range.2 hj)
    simp only [hx, hy, hyd, Bool.and_eq_true, Bool.or_eq_true, beq_iff_eq, bne_iff_ne, Bool.not_eq_true', List.contains_eq_mem, decide_eq_false_iff_not, decide_eq_true_eq] at this
    refine ⟨this.1, fun hr => ?_⟩
    rcases this.2 with h | h
    ·exact absurd hr h
    ·exact h
   ·intro i o hi ho e he hb
    have := List.all_eq_true.1 k3 i (List.mem_range.2 hi)
    simp only [ho] at this
    have := Array.all_eq_true_iff_forall_mem.1 this e he
    simpa [hb] using this
   ·have := (hS 0).1
    simp [exOps] at this
    exact this.symm
   ·have := (hS (zs.map XO.unlit).length).2
    rw [List.drop_eq_nil_of_le (Nat.le_refl _)] at this
    simp only [exOps, Option.some.injEq] at this
    exact this
   ·exact (hS n).2
  refine wpIn_region_any hmix ?_
  have h0 := zdf hs
  have h1 := zm7 h0.rep ((S n).mem.length - s.mem.length)
  have hspec : ∀ i, (fun i => i == l.im || i == l.i1 || i == l.i2 || i == l.iv || i == l.il) i = true → i = l.im ∨ i = l.i1 ∨ i = l.i2 ∨ i = l.iv ∨ i = l.il := by
   intro i hi
   simp only [Bool.or_eq_true, beq_iff_eq] at hi
   rcases hi with (((h | h) | h) | h) | h
   ·exact .inl h
   ·exact .inr (.inl h)
   ·exact .inr (.inr (.inl h))
   ·exact .inr (.inr (.inr (.inl h)))
   ·exact .inr (.inr (.inr (.inr h)))
  have hxA : (zs.map XO.unlit)[l.im]? = some ⟨some l.tA, .junk, none⟩ := by rw [List.getElem?_map, L.xA]; rfl
  have hxM : (zs.map XO.unlit)[l.iv]? = some ⟨some l.tM, .junk, none⟩ := by rw [List.getElem?_map, L.xM]; rfl
  have := d.anyJ (ro := ro) (fun i hi => by
    simp only [Bool.or_eq_false_iff, beq_eq_false_iff_ne]
    have := L.ltA; have := L.lt1; have := L.lt2; have := L.ltM; have := L.ltL
    refine ⟨⟨⟨⟨?_, ?_⟩, ?_⟩, ?_⟩, ?_⟩ <;> omega) htail k5 hcall (Q := Q) (k := s.k) (C := C) (m := s.mem) (a0 := a) hN hQ (LJ l C s.mem)
   (fun listed D t a i x E t1 a' F t2 hi hsp hun hx hj hl1 hput hl2 him => by
    simp only [Bool.or_eq_false_iff, beq_eq_false_iff_ne] at hsp
    obtain ⟨⟨⟨⟨m1, m2⟩, m3⟩, m4⟩, m5⟩ := hsp
    rw [zoq (Ne.symm m1)] at him
    obtain ⟨b, es, B, hA, hM, hf⟩ := hj him
    obtain ⟨v, hput⟩ := hput
    have dA : x.dst ≠ some l.tA := by
     rcases (d.one i l.im x _ l.tA hi L.ltA hx hxA rfl).1 with h | h
     ·exact absurd h m1
     ·exact h
    have dM : x.dst ≠ some l.tM := by
     rcases (d.one i l.iv x _ l.tM hi L.ltM hx hxM rfl).1 with h | h
     ·exact absurd h m4
     ·exact h
    refine ⟨b, es, (B.keep hl1.step).keep hl2.step, by rw [hput, zlx _ _ _ _ _ dA]; exact hA, fun hv => ?_, ?_⟩
    ·rw [zoq (Ne.symm m4)] at hv
     rw [hput, zlx _ _ _ _ _ dM]; exact hM hv
    ·rw [zoq (Ne.symm m2), zoq (Ne.symm m3)]; exact hf)
   (fun listed D t a i o hi hsp inv hr ho p hlat hj K hK => lit_wp (ro := ro) L d hspec (fun i o ho => hall i o (by simpa using ho)) hcall hN listed D t a i o hi hsp inv hr ho p hlat hj K hK)
   n (Array.replicate ops.size false) a _ _ (zmy n ops.size hn')
   ⟨by simp, fun j oj _ hl => (by rw [getD_replicate_false] at hl; cases hl), fun t ht h2 => getD_in (by simpa using h2) (getD_replicate_false _ _)⟩
   (d.start h0.rep) (h0.trans h1) (fun him => by
    rw [getD_in (by have := L.ltA; simp; omega) (getD_replicate_false _ _)] at him; cases him)
  rw [show n + (ops.size - n) = ops.size by omega] at this
  exact this
end
end Go.EX

