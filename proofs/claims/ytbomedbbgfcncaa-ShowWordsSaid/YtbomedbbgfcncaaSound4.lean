/-
  EX: code, functions, calls.
-/
import Derived.Test.YtbomedbbgfcncaaSound3
import Derived.Test.YtbomedbbgfcncaaDen
set_option linter.unusedVariables false
set_option linter.unusedSimpArgs false
namespace Go.EX

section
variable {num : FuncId → Nat} {P : Program}

def exitOf : XExit → Exit
  | .normal => .normal
  | .exit id => .exit id
  | .ret => .ret

theorem tidy_later {C : Cx} {s : St} {a : Act} (hs : SRep num C s a) (keep : List Nat) : ∃ D, D.w = C.w ∧ Later num s.k C s.mem a D (s.tidy keep) a := by
  obtain ⟨D, hw, h1, h2, h3⟩ := tidy_rep hs keep
  exact ⟨D, hw, h1, h2, h3, rfl, rfl⟩

theorem keep_later {C D : Cx} {m : Mem} {k : Nat} {s : St} {a a' : Act} (h : Later num k C m a D s a') (keep : List Nat) : Later num k C m a D { s with env := s.env.keep keep } a' :=
  ⟨⟨h.rep.mem, h.rep.env.keep keep, h.rep.k⟩, h.step, h.k, h.size, h.defers⟩

theorem bad_none {call : Calls'} {n : Nat} {xc : XCode} {s : St} (h : (.cond (.c .nilFunc) .skip .skip : XCode) = xc.wipe) : exCode call n xc s = none := by
  cases xc <;> simp only [XCode.wipe, reduceCtorEq, XCode.cond.injEq] at h
  obtain ⟨rfl, _, _⟩ := h
  rfl

theorem code_wp {call : Calls'} (hcall : CallOK num P call) (hmix : P.follows .mixedOrders = true) {N n : Nat} : ∀ (c : Code) (xc : XCode) {s s' : St} {e : XExit} {a : Act} {C : Cx} {Q : Exit → Act → World → Prop}, tr P num N c = xc.wipe → drawsOk c xc = true →
    exCode call n xc s = some (e, s') → SRep num C s a → N ≤ a.tmps.size → (∀ D a', Later num s.k C s.mem a D s' a' → Q (exitOf e) a' D.w) → c.wp P Q a C.w := by
  intro c
  induction c with
  | skip =>
    intro xc s s' e a C Q htr _ h hs _ hQ
    cases xc <;> simp only [tr, XCode.wipe, reduceCtorEq] at htr
    cases h
    exact wp_skip (hQ C a (.refl hs))
  | exit id =>
    intro xc s s' e a C Q htr _ h hs _ hQ
    cases xc <;> simp only [tr, XCode.wipe, reduceCtorEq, XCode.exit.injEq] at htr
    subst htr
    cases h
    exact wp_exit (hQ C a (.refl hs))
  | ret =>
    intro xc s s' e a C Q htr _ h hs _ hQ
    cases xc <;> simp only [tr, XCode.wipe, reduceCtorEq] at htr
    cases h
    exact wp_ret (hQ C a (.refl hs))
  | region id ops draw =>
    intro xc s s' e a C Q htr hd h hs hN hQ
    cases xc <;> simp only [tr, XCode.wipe, reduceCtorEq, XCode.region.injEq, true_and] at htr
    rename_i keep xs
    simp only [exCode] at h
    cases hx : exOps call s xs with
    | none => rw [hx] at h; cases h
    | some s1 =>
      rw [hx] at h
      cases h
      exact region_wp hcall hmix htr hd hs hN hx fun D a' hl => hQ D a' (keep_later hl keep)
  | seq x y ihx ihy =>
    intro xc s s' e a C Q htr hd h hs hN hQ
    cases xc <;> simp only [tr, XCode.wipe, reduceCtorEq, XCode.seq.injEq] at htr
    rename_i x' y'
    simp only [drawsOk, Bool.and_eq_true] at hd
    simp only [exCode] at h
    cases hx : exCode call n x' s with
    | none => rw [hx] at h; cases h
    | some p =>
      obtain ⟨e1, s1⟩ := p
      rw [hx] at h
      refine wp_seq (ihx x' htr.1 hd.1 hx hs hN fun D a' hl => ?_)
      cases e1 with
      | normal =>
        simp only [exitOf, Exit.then]
        exact ihy y' htr.2 hd.2 h hl.rep (by rw [hl.size]; exact hN) fun E a'' hl' => hQ E a'' (hl.trans (by rw [hl.k] at hl'; exact hl'))
      | exit id => cases h; exact hQ D a' hl
      | ret => cases h; exact hQ D a' hl
  | cond o x y ihx ihy =>
    intro xc s s' e a C Q htr hd h hs hN hQ
    simp only [tr] at htr
    split at htr
    · rename_i o' ho
      cases xc <;> simp only [XCode.wipe, reduceCtorEq, XCode.cond.injEq] at htr
      rename_i o'' x' y'
      obtain ⟨rfl, h1, h2⟩ := htr
      simp only [drawsOk, Bool.and_eq_true] at hd
      simp only [exCode] at h
      split at h
      · rename_i t ht
        have hv := src_val hs ho ht
        refine wp_cond hv ?_
        cases t with
        | true => simp only [if_true] at h ⊢; exact ihx x' h1 hd.1 h hs hN hQ
        | false => simp only [Bool.false_eq_true, if_false] at h ⊢; exact ihy y' h2 hd.2 h hs hN hQ
      · cases h
    · rw [bad_none htr] at h; cases h
  | block id b ih =>
    intro xc s s' e a C Q htr hd h hs hN hQ
    cases xc <;> simp only [tr, XCode.wipe, reduceCtorEq, XCode.block.injEq] at htr
    rename_i id' b'
    obtain ⟨rfl, htr⟩ := htr
    simp only [drawsOk] at hd
    simp only [exCode] at h
    cases hx : exCode call n b' s with
    | none => rw [hx] at h; cases h
    | some p =>
      obtain ⟨e1, s1⟩ := p
      rw [hx] at h
      refine wp_block (ih b' htr hd hx hs hN fun D a' hl => ?_)
      cases e1 with
      | normal => cases h; exact hQ D a' hl
      | exit j =>
        simp only at h
        split at h
        · rename_i hj; cases h; simp only [exitOf, Exit.inBlock, hj, if_true]; exact hQ D a' hl
        · rename_i hj; cases h; simp only [exitOf, Exit.inBlock, hj, if_false]; exact hQ D a' hl
      | ret => cases h; exact hQ D a' hl
  | loop b ih =>
    intro xc s s' e a C Q htr hd h hs hN hQ
    cases xc <;> simp only [tr, XCode.wipe, reduceCtorEq, XCode.loop.injEq, true_and] at htr
    rename_i keep b'
    simp only [drawsOk] at hd
    simp only [exCode] at h
    have key : ∀ (m : Nat) (s : St) (a : Act) (C : Cx), rounds (fun s => exCode call n b' (s.tidy keep)) m s = some (e, s') → SRep num C s a → N ≤ a.tmps.size → (∀ D a', Later num s.k C s.mem a D s' a' → Q (exitOf e) a' D.w) → Code.rounds P b Q m a C.w := by
      intro m
      induction m with
      | zero => intro s a C h; cases h
      | succ m ihm =>
        intro s a C h hs hN hQ
        simp only [rounds] at h
        obtain ⟨D0, hw, h0⟩ := tidy_later hs keep
        rw [rounds_succ, ← hw]
        cases hx : exCode call n b' (s.tidy keep) with
        | none => rw [hx] at h; cases h
        | some p =>
          obtain ⟨e1, s1⟩ := p
          rw [hx] at h
          refine ih b' htr hd hx h0.rep hN fun D a' hl => ?_
          rw [h0.k] at hl
          have hl := h0.trans hl
          cases e1 with
          | normal =>
            simp only [exitOf, Exit.then]
            exact ihm s1 a' D h hl.rep (by rw [hl.size]; exact hN) fun E a'' hl' => hQ E a'' (hl.trans (by rw [hl.k] at hl'; exact hl'))
          | exit id => cases h; exact hQ D a' hl
          | ret => cases h; exact hQ D a' hl
    exact wp_loop_rounds n (key n s a C h hs hN hQ)
  | _ =>
    intro xc s s' e a C Q htr _ h
    simp only [tr] at htr
    rw [bad_none htr] at h; cases h

/-- What is asked of a program's functions. -/
structure FunOK (P : Program) (num : FuncId → Nat) (f : FuncId) (xf : XFun) : Prop where
  fn : ∃ fn c, P.funcs[f]? = some fn ∧ fn.name ≠ "runtime.NumGoroutine" ∧ fn.body = some c ∧ tr P num fn.ntmps c = xf.body.wipe ∧ drawsOk c xf.body = true ∧ fn.results.toList.map (trRes P) = xf.res ∧ (∀ t ty, ResultVar.cell t ty ∈ fn.results → known P ty = true)

def resKnown (P : Program) : ResultVar → Bool
  | .tmp _ => true
  | .cell _ ty => known P ty

theorem FunOK.of {f : FuncId} {xf : XFun} {fn : Func} (h : P.funcs[f]? = some fn) (hn : (fn.name == "runtime.NumGoroutine") = false) (ht : fn.body.map (tr P num fn.ntmps) = some xf.body.wipe) (hd : fn.body.map (drawsOk · xf.body) = some true)
    (hr : fn.results.toList.map (trRes P) = xf.res) (hk : fn.results.toList.all (resKnown P) = true) : FunOK P num f xf := by
  cases hb : fn.body with
  | none => rw [hb] at ht; cases ht
  | some c =>
    rw [hb] at ht hd
    refine ⟨fn, c, h, by simpa using hn, hb, Option.some.inj ht, Option.some.inj hd, hr, fun t ty hm => ?_⟩
    exact List.all_eq_true.1 hk _ (Array.mem_toList_iff.2 hm)

def resSem (tmps : Array Value) : ResultVar → Sem Value
  | .tmp t => pure (tmps.getD t undef)
  | .cell a t => do loadVar t (← asAddr (tmps.getD a undef))

theorem results_eq (fn : Func) (tmps : Array Value) : results fn tmps = (do let vs ← fn.results.mapM (resSem tmps); pure (if h : vs.size = 1 then vs[0] else .tuple vs)) := by
  rfl

theorem run_results {fn : Func} {tmps : Array Value} {C : Cx} {s : St} {vs : List AV} (hm : MRep num C s.mem) (he : ERep num C s.env tmps) (hk : ∀ t ty, ResultVar.cell t ty ∈ fn.results → known P ty = true) (h : (fn.results.toList.map (trRes P)).mapM (resOf s) = some vs) :
    ∃ v, (results fn tmps).run P C.w = .ok v C.w ∧ ARep num C (wrapRes vs) v := by
  have key : ∀ (l : List ResultVar) (vs : List AV), (∀ t ty, ResultVar.cell t ty ∈ l → known P ty = true) → (l.map (trRes P)).mapM (resOf s) = some vs →
      ∃ us : List Value, (l.mapM (resSem tmps)).run P C.w = .ok us C.w ∧ vs.length = us.length ∧ ∀ (j : Nat) (x : AV) (u : Value), vs[j]? = some x → us[j]? = some u → ARep num C x u := by
    intro l
    induction l with
    | nil => intro vs _ h; simp at h; subst h; exact ⟨[], by simp, rfl, fun j x u hx _ => by simp at hx⟩
    | cons r l ih =>
      intro vs hk h
      simp only [List.map_cons, List.mapM_cons, Option.bind_eq_bind, Option.pure_def] at h
      cases hr : resOf s (trRes P r) with
      | none => rw [hr] at h; simp at h
      | some x =>
        rw [hr] at h
        cases hrest : (l.map (trRes P)).mapM (resOf s) with
        | none => rw [hrest] at h; simp at h
        | some xs =>
          rw [hrest] at h
          simp at h
          subst h
          obtain ⟨us, h1, h2, h3⟩ := ih xs (fun t ty hm => hk t ty (List.mem_cons_of_mem _ hm)) hrest
          have hone : ∃ u, (resSem tmps r).run P C.w = .ok u C.w ∧ ARep num C x u := by
            cases r with
            | tmp t => simp only [trRes, resOf, Option.some.injEq] at hr; subst hr; exact ⟨tmps.getD t undef, by simp only [resSem, Sem.run_pure], he t⟩
            | cell t ty =>
              simp only [trRes, resOf] at hr
              obtain ⟨b, o, u, hv, h4, h5⟩ := run_loadVar (hk t ty (List.mem_cons_self ..)) hm (he t) hr
              refine ⟨u, ?_, h5⟩
              simp only [resSem, hv, asAddr, Sem.run_bind, Sem.run_pure, Result.andThen_ok, h4]
          obtain ⟨u, h4, h5⟩ := hone
          refine ⟨u :: us, ?_, by simp [h2], fun j y z hy hz => ?_⟩
          · rw [List.mapM_cons]
            simp [h4, h1]
          · cases j with
            | zero => simp at hy hz; subst hy; subst hz; exact h5
            | succ j => exact h3 j y z (by simpa using hy) (by simpa using hz)
  obtain ⟨us, h1, h2, h3⟩ := key fn.results.toList vs (fun t ty hm => hk t ty (Array.mem_toList_iff.1 hm)) h
  have hrun : (results fn tmps).run P C.w = .ok (if h : us.toArray.size = 1 then us.toArray[0] else .tuple us.toArray) C.w := by
    rw [results_eq, Array.mapM_eq_mapM_toList]
    simp [h1]
  refine ⟨_, hrun, ?_⟩
  cases vs with
  | nil =>
    have : us = [] := by simpa using h2.symm
    subst this
    exact .tup [] #[] rfl fun j x u hx _ => by simp at hx
  | cons x r =>
    cases us with
    | nil => simp at h2
    | cons u us =>
      cases r with
      | nil =>
        have : us = [] := by simpa using h2.symm
        subst this
        exact h3 0 x u rfl rfl
      | cons y r =>
        cases us with
        | nil => simp at h2
        | cons u' us =>
          simp only [wrapRes]
          rw [dif_neg (by simp)]
          exact .tup _ _ (by simpa using h2) fun j x u hx hu => h3 j x u hx (by simpa using hu)

theorem enter_get : ∀ (l : List AV) (i t : Nat), (enter i l).get t = if i ≤ t then (l[t - i]?).getD .junk else .junk
  | [], i, t => by simp [enter, Env.get]
  | x :: r, i, t => by
    simp only [enter, Env.get]
    by_cases h : t = i
    · subst h; simp
    · rw [if_neg h, enter_get r (i + 1) t]
      by_cases h' : i ≤ t
      · have h1 : i + 1 ≤ t := by omega
        have h2 : t - i = (t - (i + 1)) + 1 := by omega
        rw [if_pos h', if_pos h1, h2]; simp
      · rw [if_neg h', if_neg (by omega)]

/-- A function does what the interpreter says. -/
theorem fun_ok {call : Calls'} (hcall : CallOK num P call) (hmix : P.follows .mixedOrders = true) {n : Nat} {f : FuncId} {xf : XFun} (hf : FunOK P num f xf) {args : List AV} {m m' : Mem} {r : AV} {C : Cx} {vals : Array Value} (h : exFun call n xf args m = some (r, m')) (hm : MRep num C m) (hl : args.length = vals.size)
    (hr : ∀ (j : Nat) (x : AV) (u : Value), args[j]? = some x → vals[j]? = some u → ARep num C x u) :
    Callable P f ∧ Calls P f vals C.w (fun e w' => ∃ v D, e = .returned v ∧ D.w = w' ∧ Step num m.length C m D m' ∧ ARep num D r v) := by
  obtain ⟨fn, c, h1, h2, h3, h4, h5, h6, h7⟩ := hf.fn
  refine ⟨⟨fn, h1, h2, by rw [h3]; rfl⟩, calls_of_wp h1 h3 ?_⟩
  generalize ha : ({ tmps := vals ++ Array.replicate (fn.ntmps - vals.size) undef, defers := [] } : Act) = a
  have hN : fn.ntmps ≤ a.tmps.size := by rw [← ha]; simp; omega
  have hs : SRep num C { k := m.length, env := enter 0 args, mem := m } a := by
    refine ⟨hm, fun t => ?_, Nat.le_refl _⟩
    rw [enter_get]
    simp only [Nat.zero_le, if_true, Nat.sub_zero]
    cases hx : args[t]? with
    | none => exact .junk _
    | some x =>
      have ht : t < vals.size := by rw [← hl]; exact (List.getElem?_eq_some_iff.1 hx).1
      have : a.tmps.getD t undef = vals[t] := by
        rw [← ha]
        simp only [Array.getD_eq_getD_getElem?, Array.getElem?_append, if_pos ht]
        simp [ht]
      rw [this]
      exact hr t x vals[t] hx (by simp [ht])
  have hdone : ∀ {s : St}, leave s xf = some (r, m') → ∀ D a', Later num m.length C m a D s a' → a'.defers = [] ∧ ∃ v, (results fn a'.tmps).run P D.w = .ok v D.w ∧ ∃ v' D', Ending.returned v = .returned v' ∧ D'.w = D.w ∧ Step num m.length C m D' m' ∧ ARep num D' r v' := by
    intro s hlv D a' hlat
    refine ⟨by rw [hlat.defers, ← ha], ?_⟩
    unfold leave at hlv
    cases hv : xf.res.mapM (resOf s) with
    | none => rw [hv] at hlv; cases hlv
    | some vs =>
      rw [hv] at hlv
      rw [← h6] at hv
      obtain ⟨v, hrun, hx⟩ := run_results hlat.rep.mem hlat.rep.env h7 hv
      refine ⟨v, hrun, v, ?_⟩
      simp only [Option.map_some] at hlv
      split at hlv
      · cases hlv
        exact ⟨D, rfl, rfl, hlat.step, hx⟩
      · cases hlv
        have hst := pick_step hlat.rep.mem hlat.rep.k (wrapRes vs).refs
        have hst' : Step num m.length D s.mem (D.pick (order s.k (wrapRes vs).refs s.mem)) (s.mem.pickAll (order s.k (wrapRes vs).refs s.mem)) := hst.le (by rw [hlat.k]; exact Nat.le_refl _)
        exact ⟨D.pick (order s.k (wrapRes vs).refs s.mem), rfl, rfl, hlat.step.trans hst', hx.tr (pick_tr _)⟩
  unfold exFun at h
  split at h
  · rename_i s hx
    refine code_wp hcall hmix c xf.body h4 h5 hx hs hN fun D a' hlat => ?_
    obtain ⟨hd, v, hrun, hR⟩ := hdone h D a' hlat
    exact ⟨hd, v, hrun, hR⟩
  · rename_i s hx
    refine code_wp hcall hmix c xf.body h4 h5 hx hs hN fun D a' hlat => ?_
    obtain ⟨hd, v, hrun, hR⟩ := hdone h D a' hlat
    exact ⟨hd, v, hrun, hR⟩
  · cases h

/-- A program that the interpreter speaks of. -/
structure Runs (P : Program) (num : FuncId → Nat) (code : Nat → Option XFun) (ext : Calls') : Prop where
  mix : P.follows .mixedOrders = true
  fns : ∀ f xf, code (num f) = some xf → FunOK P num f xf
  ext : CallOK num P ext

theorem runs_callN {code : Nat → Option XFun} {ext : Calls'} (h : Runs P num code ext) : ∀ n, CallOK num P (callN code ext n)
  | 0 => fun f args m r m' C vals hc => by cases hc
  | n + 1 => fun f args m r m' C vals hc hm hl hr => by
    simp only [callN] at hc
    cases hf : code (num f) with
    | none => rw [hf] at hc; exact h.ext f args m r m' C vals hc hm hl hr
    | some xf => rw [hf] at hc; exact fun_ok (runs_callN h n) h.mix (h.fns f xf hf) hc hm hl hr

theorem runs_callW {code : Nat → Option XFun} {ext : Calls'} (h : Runs P num code ext) : CallOK num P (callW code ext) := by
  intro f args m r m' C vals hc hm hl hr
  obtain ⟨n, hn⟩ := (callW_some code ext).1 hc
  exact runs_callN h n f args m r m' C vals hn hm hl hr

theorem none_ok : CallOK num P (fun _ _ _ => none) := fun f args m r m' C vals hc => by cases hc

end
end Go.EX
