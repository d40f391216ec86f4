/-
  EX: regions.
-/
import Derived.Test.YtbomedbbgfcncaaSound
import Derived.LoopN
import Derived.StillTail
set_option linter.unusedVariables false
set_option linter.unusedSimpArgs false
namespace Go.EX

section
variable {num : FuncId → Nat} {P : Program}

/-- Later than C, seen from a state whose first objects are k. -/
structure Later (num : FuncId → Nat) (k : Nat) (C : Cx) (m : Mem) (a : Act) (D : Cx) (s' : St) (a' : Act) : Prop where
  rep : SRep num D s' a'
  step : Step num k C m D s'.mem
  k : s'.k = k
  size : a'.tmps.size = a.tmps.size
  defers : a'.defers = a.defers

theorem Later.trans {k : Nat} {C D E : Cx} {m : Mem} {s s' : St} {a a' a'' : Act} (h : Later num k C m a D s a') (g : Later num k D s.mem a' E s' a'') : Later num k C m a E s' a'' :=
  ⟨g.rep, h.step.trans g.step, g.k, g.size.trans h.size, g.defers.trans h.defers⟩

theorem Later.refl {C : Cx} {s : St} {a : Act} (hs : SRep num C s a) : Later num s.k C s.mem a C s a := ⟨hs, .refl hs.mem hs.k, rfl, rfl, rfl⟩

theorem put_size (a : Act) (d : Option Tmp) (v : Value) : (a.put d v).tmps.size = a.tmps.size := by cases d <;> simp [Act.put]
theorem put_defers (a : Act) (d : Option Tmp) (v : Value) : (a.put d v).defers = a.defers := by cases d <;> rfl

/-- What an operation leaves in the environment. -/
def St.bind (s : St) (d : Option Nat) (v : AV) : St := match d with
  | some d => { s with env := (d, v) :: s.env }
  | none => s

theorem bind_mem (s : St) (d : Option Nat) (v : AV) : (s.bind d v).mem = s.mem := by cases d <;> rfl
theorem bind_k (s : St) (d : Option Nat) (v : AV) : (s.bind d v).k = s.k := by cases d <;> rfl

theorem bind_later {k N : Nat} {C D : Cx} {m : Mem} {s : St} {a : Act} {d : Option Nat} {x : AV} {v : Value} (hN : N ≤ a.tmps.size) (hd : dstOk N d = true) (hst : Step num k C m D s.mem) (he : ERep num D s.env a.tmps) (hx : ARep num D x v) (hk : s.k = k) :
    Later num k C m a D (s.bind d x) (a.put d v) := by
  refine ⟨⟨by rw [bind_mem]; exact hst.rep, ?_, by rw [bind_k, bind_mem, hk]; exact hst.len⟩, by rw [bind_mem]; exact hst, by rw [bind_k, hk], put_size .., put_defers ..⟩
  cases d with
  | none => exact he
  | some d =>
    have : d < a.tmps.size := Nat.lt_of_lt_of_le (by simpa [dstOk] using hd) hN
    exact he.put this hx

/-- An operation's run. -/
theorem does_wp {op : Op} {ty : TypeId} {pos : String} {after : Array Edge} {a : Act} {C : Cx} {s s' : St} {x : AV} (h : Does num P op ty pos after a C s x s') {N : Nat} (hN : N ≤ a.tmps.size) {d : Option Tmp} (hd : dstOk N d = true) (g : Option (Nat × Bool))
    {K : Act → World → Prop} {Q : Exit → Act → World → Prop} (hK : ∀ D a', Later num s.k C s.mem a D (s'.bind d x) a' → K a' D.w) : Oper.wp P ⟨d, op, ty, pos, after, g⟩ a C.w K Q := by
  unfold Oper.wp
  rcases h with ⟨v, D, hrun, hst, he, hx, hk⟩ | ⟨f, vals, hrun, hc⟩
  · rcases hrun d g with h | ⟨h, rfl⟩ <;> rw [h]
    · rw [Oper.upon_value]; exact hK D _ (bind_later hN hd hst he hx hk)
    · rw [Oper.upon_skip]; exact hK D _ (bind_later hN hd hst he hx hk)
  · rw [hrun d g, Oper.upon_enter]
    refine hc.mono fun e w' ⟨v, D, he', hw, hst, he, hx, hk⟩ => ?_
    subst he' hw
    exact hK D _ (bind_later hN hd hst he hx hk)

theorem trOper_spec {N : Nat} {ops : Array Oper} {o : Oper} {x : XO} (h : trOper P num N ops o = some x) : trOp P num o.op = some x.op ∧ trGuard ops o.guard = some x.guard ∧ x.dst = o.dst ∧ dstOk N o.dst = true ∧ ∀ (t : Nat) (b : Bool), x.guard = some (t, b) → t < N := by
  unfold trOper at h
  split at h
  · rename_i y g h1 h2
    split at h
    · cases h; rename_i hd; simp only [Bool.and_eq_true] at hd; exact ⟨h1, h2, rfl, hd.1, fun t b hg => by simp only at hg; subst hg; simpa [dstOk] using hd.2⟩
    · cases h
  · cases h

theorem exOne_bind {call : Calls'} {s : St} {o : XO} {s' : St} (h : exOne call s o = some s') :
    (∃ v s1, exOp call s o.op = some (v, s1) ∧ s' = s1.bind o.dst v ∧ (o.guard = none ∨ ∃ t b, o.guard = some (t, b) ∧ s.env.get t = .imm (.val (.bool b)))) ∨
    (s' = s.bind o.dst (.tup []) ∧ ∃ t b, o.guard = some (t, b) ∧ ((∃ c, s.env.get t = .imm (.val (.bool c)) ∧ c ≠ b) ∨ s.env.get t = .tup [])) := by
  unfold exOne at h
  dsimp only at h
  have go : ∀ {s'}, (exOp call s o.op).map (fun (v, s') => match o.dst with | some d => { s' with env := (d, v) :: s'.env } | none => s') = some s' → ∃ v s1, exOp call s o.op = some (v, s1) ∧ s' = s1.bind o.dst v := by
    intro s' h
    cases hx : exOp call s o.op with
    | none => rw [hx] at h; cases h
    | some p =>
      obtain ⟨v, s1⟩ := p
      rw [hx] at h
      refine ⟨v, s1, rfl, ?_⟩
      simp only [Option.map_some, Option.some.injEq] at h
      rw [← h]
      cases o.dst <;> rfl
  split at h
  · rename_i hg
    obtain ⟨v, s1, h1, h2⟩ := go h
    exact .inl ⟨v, s1, h1, h2, .inl hg⟩
  · rename_i t b hg
    split at h
    · rename_i c hc
      split at h
      · rename_i hcb
        obtain ⟨v, s1, h1, h2⟩ := go h
        exact .inl ⟨v, s1, h1, h2, .inr ⟨t, b, hg, by rw [hc, hcb]⟩⟩
      · rename_i hcb
        refine .inr ⟨?_, t, b, hg, .inl ⟨c, hc, hcb⟩⟩
        simp only [Option.some.injEq] at h
        rw [← h]
        cases o.dst <;> rfl
    · rename_i hc
      refine .inr ⟨?_, t, b, hg, .inr hc⟩
      simp only [Option.some.injEq] at h
      rw [← h]
      cases o.dst <;> rfl
    · cases h

theorem wanted_of {ops : Array Oper} {o : Oper} {a : Act} {C : Cx} {s : St} (hs : SRep num C s a) {t : Nat} {b : Bool} {j : Nat} {c : Bool} (hg : o.guard = some (j, b)) (hj : (ops[j]?).bind (·.dst) = some t) (ht : t < a.tmps.size) (hc : s.env.get t = .imm (.val (.bool c))) :
    Region.wanted o (yielded ops a.tmps) = (c == b) := by
  have h1 := hs.env t
  rw [hc] at h1
  have h2 := rep_val h1
  have h3 : a.tmps[t]? = some (.bool c) := by
    simp only [Array.getD, ht, dite_true] at h2
    rw [Array.getElem?_eq_getElem ht]; exact congrArg some h2
  simp only [Region.wanted, hg, yielded, hj, Option.bind_some, h3]
  cases c <;> cases b <;> rfl

theorem unwanted_of {ops : Array Oper} {o : Oper} {a : Act} {C : Cx} {s : St} (hs : SRep num C s a) {t : Nat} {b : Bool} {j : Nat} (hg : o.guard = some (j, b)) (hj : (ops[j]?).bind (·.dst) = some t) (ht : t < a.tmps.size) (hc : s.env.get t = .tup []) :
    Region.wanted o (yielded ops a.tmps) = false := by
  have h1 := hs.env t
  rw [hc] at h1
  have h3 : a.tmps[t]? = some (.tuple #[]) := by
    generalize hv : a.tmps.getD t undef = v at h1
    cases h1 with
    | tup _ vs hl _ =>
      have : vs = #[] := by simpa using hl.symm
      subst this
      simp only [Array.getD, ht, dite_true] at hv
      rw [Array.getElem?_eq_getElem ht]; exact congrArg some hv
  simp only [Region.wanted, hg, yielded, hj, Option.bind_some, h3]
  cases b <;> rfl

theorem skip_rep (C : Cx) : ARep num C (.tup []) undef := .tup [] #[] rfl fun j x u hx _ => by simp at hx

/-- One operation, wanted or not. -/
theorem one_wp {call : Calls'} (hcall : CallOK num P call) {N : Nat} {ops : Array Oper} {o : Oper} {x : XO} (htr : trOper P num N ops o = some x.wipe) {a : Act} {C : Cx} {s s' : St} (hs : SRep num C s a) (hN : N ≤ a.tmps.size) (h : exOne call s x = some s')
    {K : Act → World → Prop} {Q : Exit → Act → World → Prop} (hK : ∀ D a', Later num s.k C s.mem a D s' a' → K a' D.w) :
    if Region.wanted o (yielded ops a.tmps) then o.wp P a C.w K Q ∨ (o.asks P a C.w ∧ LetsOut Q) else K (a.put o.dst undef) C.w := by
  obtain ⟨h1, h2, h3, h4, hgd⟩ := trOper_spec htr
  have hguard : x.wipe.guard = x.guard := rfl
  have hdst : x.wipe.dst = x.dst := rfl
  rw [hguard] at h2
  rw [hdst] at h3
  have wgd : ∀ (t : Nat) (b : Bool), x.guard = some (t, b) → ∃ j, o.guard = some (j, b) ∧ (ops[j]?).bind (·.dst) = some t := by
    intro t b hx
    rw [hx] at h2
    unfold trGuard at h2
    split at h2
    · cases h2
    · rename_i j b' hjb
      split at h2
      · rename_i t' ht
        simp only [Option.some.injEq, Prod.mk.injEq] at h2
        obtain ⟨rfl, rfl⟩ := h2
        exact ⟨_, hjb, ht⟩
      · cases h2
  rcases exOne_bind h with ⟨v, s1, hx, rfl, hg⟩ | ⟨rfl, t, b, hg, hc⟩
  · have hw : Region.wanted o (yielded ops a.tmps) = true := by
      rcases hg with hg | ⟨t, b, hg, hc⟩
      · rw [hg] at h2
        unfold trGuard at h2
        split at h2
        · simp [Region.wanted, *]
        · split at h2 <;> simp at h2
      · obtain ⟨j, hj, hd⟩ := wgd t b hg
        rw [wanted_of hs hj hd (Nat.lt_of_lt_of_le (hgd t b hg) hN) hc]; simp
    rw [if_pos hw]
    refine .inl ?_
    have := does_wp (exOp_does (ty := o.type) (pos := o.pos) (after := o.after) hcall hs h1 hx) hN h4 o.guard (K := K) (Q := Q)
    obtain ⟨d, op, ty, pos, after, g⟩ := o
    dsimp only at *
    refine this fun D a' hl => hK D a' ?_
    rw [h3]
    exact hl
  · obtain ⟨j, hj, hd⟩ := wgd t b hg
    have hw : Region.wanted o (yielded ops a.tmps) = false := by
      rcases hc with ⟨c, hc, hne⟩ | hc
      · rw [wanted_of hs hj hd (Nat.lt_of_lt_of_le (hgd t b hg) hN) hc]; simpa using hne
      · exact unwanted_of hs hj hd (Nat.lt_of_lt_of_le (hgd t b hg) hN) hc
    rw [hw]
    simp only [Bool.false_eq_true, if_false]
    refine hK C _ ?_
    rw [h3]
    exact bind_later hN h4 (.refl hs.mem hs.k) hs.env (skip_rep C) rfl


/-- A list of operations, one after another. -/
theorem list_wp {call : Calls'} (hcall : CallOK num P call) {N : Nat} {ops : Array Oper} {Q : Exit → Act → World → Prop} : ∀ (l : List Oper) (xs : List XO) {a : Act} {C : Cx} {s s' : St}, trOps P num N ops l = xs.map XO.wipe → SRep num C s a → N ≤ a.tmps.size → exOps call s xs = some s' →
    (∀ D a', Later num s.k C s.mem a D s' a' → Q .normal a' D.w) → wpList P ops Q l a C.w
  | [], xs, a, C, s, s', htr, hs, _, h, hQ => by
    cases xs with
    | nil => cases h; exact hQ C a (.refl hs)
    | cons x r => simp [trOps] at htr
  | o :: l, xs, a, C, s, s', htr, hs, hN, h, hQ => by
    simp only [trOps] at htr
    cases ho : trOper P num N ops o with
    | none =>
      rw [ho] at htr
      cases xs with
      | nil => simp at htr
      | cons x r =>
        simp only [List.map_cons, List.cons.injEq] at htr
        have hb : x.wipe = badOp := htr.1.symm
        have h1 : x.op = .callV (.c (.bool true)) [] ∧ x.guard = none := by
          obtain ⟨d, op, g⟩ := x
          simp only [XO.wipe, badOp, XO.mk.injEq] at hb
          obtain ⟨_, h2, h3⟩ := hb
          refine ⟨?_, h3⟩
          cases op <;> simp only [XOp.wipe, reduceCtorEq] at h2
          exact h2
        simp only [exOps] at h
        unfold exOne at h
        simp only [h1.1, h1.2, exOp, Env.ev, Option.map_none, Option.bind_none] at h
        cases h
    | some y =>
      rw [ho] at htr
      cases xs with
      | nil => simp at htr
      | cons x r =>
        simp only [List.map_cons, List.cons.injEq] at htr
        obtain ⟨h1, h2⟩ := htr
        subst h1
        simp only [exOps] at h
        cases hx : exOne call s x with
        | none => rw [hx] at h; cases h
        | some s1 =>
          rw [hx] at h
          simp only [Option.bind_some] at h
          have := one_wp hcall ho hs hN hx (Q := Q) (K := wpList P ops Q l) fun D a' hl =>
            list_wp hcall l r h2 hl.rep (by rw [hl.size]; exact hN) h fun E a'' hl' => hQ E a'' (hl.trans (by rw [hl.k] at hl'; exact hl'))
          unfold wpList
          exact this

end
end Go.EX
