/-
  EX: calls whose objects become the caller's; function values.
-/
import Derived.Test.YtbomedbbgfcncaaCall2
set_option linter.unusedVariables false
set_option linter.unusedSimpArgs false
namespace Go.EX

section
variable {num : FuncId → Nat} {P : Program}
variable {ty : TypeId} {pos : String} {after : Array Edge} {a : Act} {C : Cx} {s : St}

/-- The caller's context with the callee's objects behind its own. -/
def Cx.join (C D : Cx) (J : Nat → Prop) (k : Nat) : Cx := { σ := fun i => if i < C.n then C.σ i else D.σ (i - C.n), I := J, n := C.n + k, w := D.w }

theorem join_step {m mc : Mem} (hm : MRep num C m) {C0 D : Cx} (hw0 : C0.w = C.w) (hst : Step num 0 C0 [] D mc) {J : Nat → Prop} (hJ1 : ∀ b, C.I b → J b) (hJ2 : ∀ b, J b → C.I b ∨ C.w.heap.size ≤ b) (hJ3 : ∀ b, J b → b < D.w.heap.size) (hJ4 : ∀ b, Own D mc b → ¬ J b)
    (hobj : ∀ (i : Nat) o, mc[i]? = some o → ORep num (C.join D J mc.length) (C.n + i) (o.ren fun i => some (m.length + i))) {k : Nat} (hk : k ≤ m.length) :
    Step num k C m (C.join D J mc.length) (m ++ mc.map (AObj.ren fun i => some (m.length + i))) ∧ Tr some C (C.join D J mc.length) := by
  have hlen := hm.len
  have hsize : C.w.heap.size ≤ D.w.heap.size := by have := hst.size; rwa [hw0] at this
  have hkeep : ∀ b, b < C.w.heap.size → D.w.heap[b]? = C.w.heap[b]? := by
    intro b hb
    have := hst.keep b (by rw [hw0]; exact hb) fun ⟨i, o, h, _⟩ => by simp at h
    rwa [hw0] at this
  have hownD : ∀ b, Own D mc b → C.w.heap.size ≤ b := by
    intro b hb
    rcases hst.own b hb with h | ⟨i, o, h, _⟩
    · rwa [hw0] at h
    · simp at h
  have hσ1 : ∀ i, i < m.length → (C.join D J mc.length).σ i = C.σ i := fun i hi => by simp only [Cx.join]; rw [if_pos (by omega)]
  have hσ2 : ∀ i, (C.join D J mc.length).σ (m.length + i) = D.σ i := fun i => by simp only [Cx.join]; rw [if_neg (by omega)]; congr 1; omega
  have htr : Tr some C (C.join D J mc.length) := by
    refine ⟨hJ1, fun b hb => hkeep b (hm.bd b hb), fun i j hi hj => ?_⟩
    cases hj
    exact ⟨by simp only [Cx.join]; omega, hσ1 i (by omega), fun arr e h => ⟨arr, by show D.w.heap[_]? = _; rw [hkeep _ (Array.getElem?_eq_some_iff.1 h).1]; exact h, rfl⟩⟩
  have split : ∀ (i : Nat) p, (m ++ mc.map (AObj.ren fun i => some (m.length + i)))[i]? = some p → (i < m.length ∧ m[i]? = some p) ∨ ∃ j q, i = m.length + j ∧ mc[j]? = some q ∧ p = q.ren fun i => some (m.length + i) := by
    intro i p hp
    rcases Nat.lt_or_ge i m.length with h | h
    · rw [List.getElem?_append_left h] at hp; exact .inl ⟨h, hp⟩
    · rw [List.getElem?_append_right h] at hp
      obtain ⟨q, hq, rfl⟩ := map_get _ _ _ _ hp
      exact .inr ⟨i - m.length, q, by omega, hq, rfl⟩
  have hownE : ∀ b, Own (C.join D J mc.length) (m ++ mc.map (AObj.ren fun i => some (m.length + i))) b → Own C m b ∨ Own D mc b := by
    rintro b ⟨i, p, hp, hl, hb⟩
    rcases split i p hp with ⟨hi, hp'⟩ | ⟨j, q, rfl, hq, rfl⟩
    · exact .inl ⟨i, p, hp', hl, by rw [← hσ1 i hi]; exact hb⟩
    · rw [ren_live] at hl
      exact .inr ⟨j, q, hq, hl, by rw [← hσ2 j]; exact hb⟩
  refine ⟨⟨⟨by simp [Cx.join, hlen], fun i p hp => ?_, fun i j p q hp hq hlp hlq he => ?_, fun b hb hJ => ?_, hJ3⟩, by rw [← hw0]; exact hst.os, by rw [← hw0]; exact hst.tape, by rw [← hw0]; exact hst.out, hsize, fun b hb _ => hkeep b hb,
    fun b arr e h => ⟨arr, by show D.w.heap[b]? = _; rw [hkeep b (Array.getElem?_eq_some_iff.1 h).1]; exact h, rfl⟩, hJ1, fun b hb => ?_, fun b hb => ?_, fun i hi p hp hmv => ?_, by simp; omega⟩, htr⟩
  · rcases split i p hp with ⟨hi, hp'⟩ | ⟨j, q, rfl, hq, rfl⟩
    · have hob := hm.obj i p hp'
      exact orep_mono htr (hσ1 i hi) (fun x h => by show D.w.heap[_]? = _; rw [hkeep _ (Array.getElem?_eq_some_iff.1 h).1]; exact h) hob
    · have := hobj j q hq
      rwa [← hlen] at this
  · rcases split i p hp with ⟨hi, hp'⟩ | ⟨i', p', rfl, hp', rfl⟩ <;> rcases split j q hq with ⟨hj, hq'⟩ | ⟨j', q', rfl, hq', rfl⟩
    · rw [hσ1 i hi, hσ1 j hj] at he; exact hm.inj i j p q hp' hq' hlp hlq he
    · rw [ren_live] at hlq
      rw [hσ1 i hi, hσ2] at he
      have h1 := MRep.lt num hm ⟨i, p, hp', hlp, rfl⟩
      have h2 := hownD _ ⟨j', q', hq', hlq, rfl⟩
      omega
    · rw [ren_live] at hlp
      rw [hσ1 j hj, hσ2] at he
      have h1 := MRep.lt num hm ⟨j, q, hq', hlq, rfl⟩
      have h2 := hownD _ ⟨i', p', hp', hlp, rfl⟩
      omega
    · rw [ren_live] at hlp hlq
      rw [hσ2, hσ2] at he
      rw [hst.rep.inj i' j' p' q' hp' hq' hlp hlq he]
  · rcases hownE b hb with h | h
    · rcases hJ2 b hJ with h' | h'
      · exact hm.imm b h h'
      · have := MRep.lt num hm h; omega
    · exact hJ4 b h hJ
  · rcases hJ2 b hb with h | h
    · exact .inl h
    · exact .inr (.inl h)
  · rcases hownE b hb with h | h
    · exact .inr h
    · exact .inl (hownD b h)
  · rcases split i p hp with ⟨hi', hp'⟩ | ⟨j, q, rfl, _, _⟩
    · exact ⟨p, hp', hmv, hσ1 i hi'⟩
    · omega

/-- What leads to owned objects alone needs nothing that is never written. -/
theorem own1_ren {D E : Cx} {f : Nat → Option Nat} (h : ∀ id j, id < D.n → f id = some j → j < E.n ∧ E.σ j = D.σ id ∧ ∀ arr e, D.w.heap[D.σ id]? = some (.cells arr e (0, 0)) → ∃ arr', E.w.heap[D.σ id]? = some (.cells arr' e (0, 0)) ∧ arr'.size = arr.size)
    {x : AV} (ho : x.own1 = true) {v : Value} (hx : ARep num D x v) : ARep num E (x.ren f) v := by
  unfold AV.own1 at ho
  split at ho
  · exact plain1_any rfl hx E
  · rename_i id off sz len cap
    cases hx with
    | osl _ _ _ _ _ c a arr e hid hl hk ha hw hs =>
      simp only [AV.ren]
      cases hf : f id with
      | none => exact .junk _
      | some j =>
        obtain ⟨h1, h2, h3⟩ := h id j hid hf
        obtain ⟨arr', h4, h5⟩ := h3 arr e hw
        dsimp only
        rw [← h2] at h4 ⊢
        exact .osl j off sz len cap c a arr' e h1 hl hk ha h4 (by rw [h5]; exact hs)
  · rename_i id off
    cases hx with
    | optr _ _ hid =>
      simp only [AV.ren]
      cases hf : f id with
      | none => exact .junk _
      | some j =>
        obtain ⟨h1, h2, _⟩ := h id j hid hf
        dsimp only
        rw [← h2]
        exact .optr j off h1
  · cases ho

theorem own2_ren {D E : Cx} {f : Nat → Option Nat} (h : ∀ id j, id < D.n → f id = some j → j < E.n ∧ E.σ j = D.σ id ∧ ∀ arr e, D.w.heap[D.σ id]? = some (.cells arr e (0, 0)) → ∃ arr', E.w.heap[D.σ id]? = some (.cells arr' e (0, 0)) ∧ arr'.size = arr.size)
    {x : AV} (ho : x.own2 = true) {v : Value} (hx : ARep num D x v) : ARep num E (x.ren f) v := by
  unfold AV.own2 at ho
  split at ho
  · rename_i cells
    cases hx with
    | agg _ vs hl h1 hr =>
      simp only [AV.ren]
      refine .agg _ vs (by rw [renL_length]; exact hl) h1 fun j x u hx hu => ?_
      rw [renL_get] at hx
      cases hq : cells[j]? with
      | none => simp [hq] at hx
      | some y => simp [hq] at hx; subst hx; exact own1_ren h (List.all_eq_true.1 ho y (List.mem_of_getElem? hq)) (hr j y u hq hu)
  · exact own1_ren h ho hx

theorem own_ren {D E : Cx} {f : Nat → Option Nat} (h : ∀ id j, id < D.n → f id = some j → j < E.n ∧ E.σ j = D.σ id ∧ ∀ arr e, D.w.heap[D.σ id]? = some (.cells arr e (0, 0)) → ∃ arr', E.w.heap[D.σ id]? = some (.cells arr' e (0, 0)) ∧ arr'.size = arr.size)
    {x : AV} (ho : x.own = true) {v : Value} (hx : ARep num D x v) : ARep num E (x.ren f) v := by
  unfold AV.own at ho
  split at ho
  · rename_i xs
    cases hx with
    | tup _ vs hl hr =>
      simp only [AV.ren]
      refine .tup _ vs (by rw [renL_length]; exact hl) fun j x u hx hu => ?_
      rw [renL_get] at hx
      cases hq : xs[j]? with
      | none => simp [hq] at hx
      | some y => simp [hq] at hx; subst hx; exact own2_ren h (List.all_eq_true.1 ho y (List.mem_of_getElem? hq)) (hr j y u hq hu)
  · exact own2_ren h ho hx

theorem y_own {call : Calls'} (hcall : CallOK num P call) (hs : SRep num C s a) {f : FuncId} {args : Array Operand} {ats : Array TypeId} {ys : List Src} (hy : args.toList.mapM (trSrc num) = some ys) {r : AV} {s' : St} (h : exOwn call s (num f) (ys.map s.env.ev) = some (r, s')) :
    CallsTo num P (.call { callee := .value (.func f), args := args, argTypes := ats }) ty pos after a C s r s' := by
  have hm := hs.mem
  have hlen := hm.len
  obtain ⟨hl, hr⟩ := args_rep hs args.toList ys hy
  unfold exOwn at h
  cases hf : (ys.map s.env.ev).mapM (frz s.mem) with
  | none => simp [hf] at h
  | some bs =>
    simp only [hf] at h
    cases hc : call (num f) bs [] with
    | none => simp [hc] at h
    | some rm =>
      obtain ⟨rv, mc⟩ := rm
      simp only [hc] at h
      split at h
      · rename_i hcond
        simp only [Option.some.injEq, Prod.mk.injEq] at h
        obtain ⟨rfl, rfl⟩ := h
        by_cases himm : (ys.map s.env.ev).all AV.isImm = true
        · let C0 : Cx := { σ := C.σ, I := C.I, n := 0, w := C.w }
          have hC0 : MRep num C0 [] := ⟨rfl, fun i o h => by simp at h, fun i j o p h => by simp at h, fun b ⟨i, o, h, _⟩ => by simp at h, hm.bd⟩
          obtain ⟨h1, h2⟩ := mapM_get _ _ _ hf
          have h3 : ∀ (j : Nat) (x : AV) (u : Value), bs[j]? = some x → (args.toList.map a.eval).toArray[j]? = some u → ARep num C0 x u := by
            intro j x u hx hu
            obtain ⟨q, hq, hfq⟩ := h2 j x hx
            have hqi := List.all_eq_true.1 himm q (List.mem_of_getElem? hq)
            have := frz_imm hqi hfq
            subst this
            exact imm_any hqi (hr j x u hq hu) C0 (fun _ h => h) rfl
          obtain ⟨hcb, hcs⟩ := hcall f bs [] rv mc C0 _ hc hC0 (by rw [h1]; exact hl) h3
          refine ⟨f, _, fun dst g => run_call hcb args ats C.w dst g, hcs.mono ?_⟩
          rintro e w' ⟨v, D, rfl, rfl, hst, hrv⟩
          have hDn := hst.rep.len
          have tup : Tr (fun i => some (s.mem.length + i)) D (C.join D D.I mc.length) := by
            refine ⟨fun _ h => h, fun _ _ => rfl, fun i j hi hj => ?_⟩
            cases hj
            exact ⟨by simp only [Cx.join]; omega, by simp only [Cx.join]; rw [if_neg (by omega)]; congr 1; omega, fun arr e h => ⟨arr, h, rfl⟩⟩
          obtain ⟨hj, ht⟩ := join_step (k := s.k) hm (C0 := C0) rfl hst (J := D.I) hst.imm (fun b hb => by
              rcases hst.imm' b hb with h | h | ⟨i, o, h, _⟩
              · exact .inl h
              · exact .inr h
              · simp at h) hst.rep.bd hst.rep.imm (fun i o ho => orep_tr tup (by simp only [Cx.join]; rw [if_neg (by omega)]; congr 1; omega) (fun _ h => h) (hst.rep.obj i o ho)) hs.k
          exact ⟨v, C.join D D.I mc.length, rfl, rfl, hj, hs.env.mono ht, hrv.tr tup, rfl⟩
        · have hown : rv.own = true ∧ mc.all AObj.own = true := by simpa [himm] using hcond
          have hvr := view_rep hm
          obtain ⟨h1, h2⟩ := args_frz hm hf hl hr (C.view s.mem num) (fun _ h => h) rfl
          obtain ⟨hcb, hcs⟩ := hcall f bs [] rv mc _ _ hc hvr h1 h2
          refine ⟨f, _, fun dst g => run_call hcb args ats C.w dst g, hcs.mono ?_⟩
          rintro e w' ⟨v, D, rfl, rfl, hst, hrv⟩
          have hDn := hst.rep.len
          have hids : ∀ id j, id < D.n → (fun i => some (s.mem.length + i) : Nat → Option Nat) id = some j → j < (C.join D C.I mc.length).n ∧ (C.join D C.I mc.length).σ j = D.σ id ∧ ∀ arr e, D.w.heap[D.σ id]? = some (.cells arr e (0, 0)) → ∃ arr', (C.join D C.I mc.length).w.heap[D.σ id]? = some (.cells arr' e (0, 0)) ∧ arr'.size = arr.size := by
            intro i j hi hj
            cases hj
            exact ⟨by simp only [Cx.join]; omega, by simp only [Cx.join]; rw [if_neg (by omega)]; congr 1; omega, fun arr e h => ⟨arr, h, rfl⟩⟩
          obtain ⟨hj, ht⟩ := join_step (k := s.k) hm (C0 := C.view s.mem num) rfl hst (J := C.I) (fun _ h => h) (fun _ h => .inl h) (fun b hb => Nat.lt_of_lt_of_le (hm.bd b hb) hst.size) (fun b hb hI => hst.rep.imm b hb (hst.imm b (.inl hI))) (fun i o ho => by
              have hoo := List.all_eq_true.1 hown.2 o (List.mem_of_getElem? ho)
              have hob := hst.rep.obj i o ho
              have hσ : (C.join D C.I mc.length).σ (C.n + i) = D.σ i := by simp only [Cx.join]; rw [if_neg (by omega)]; congr 1; omega
              cases o with
              | flat cs mv =>
                obtain ⟨arr, e, h1, h2⟩ := hob
                refine ⟨arr, e, by rw [hσ]; exact h1, fun j x hx => ?_⟩
                obtain ⟨u, hu, hr'⟩ := h2 j x hx
                have hp := List.all_eq_true.1 hoo x (List.mem_of_getElem? hx)
                cases x with
                | val z => cases hr' with | val _ h => exact ⟨_, hu, .val _ h⟩
                | slice => cases hp
                | ptr => cases hp
              | rich cs =>
                obtain ⟨arr, e, h1, h2⟩ := hob
                refine ⟨arr, e, by rw [hσ]; exact h1, fun j x hx => ?_⟩
                rw [renL_get] at hx
                cases hq : cs[j]? with
                | none => simp [hq] at hx
                | some y =>
                  simp [hq] at hx
                  subst hx
                  obtain ⟨u, hu, h1c, hr'⟩ := h2 j y hq
                  exact ⟨u, hu, h1c, own1_ren hids (List.all_eq_true.1 hoo y (List.mem_of_getElem? hq)) hr'⟩
              | map es => exact absurd hoo (by simp [AObj.own])
              | dead => trivial) hs.k
          exact ⟨v, C.join D C.I mc.length, rfl, rfl, hj, hs.env.mono ht, own_ren hids hown.1 hrv, rfl⟩
      · cases h

theorem y_share {call : Calls'} (hcall : CallOK num P call) (hs : SRep num C s a) {f : FuncId} {args : Array Operand} {ats : Array TypeId} {ys : List Src} (hy : args.toList.mapM (trSrc num) = some ys) {r : AV} {s' : St} (h : exShare call s (num f) (ys.map s.env.ev) = some (r, s')) :
    CallsTo num P (.call { callee := .value (.func f), args := args, argTypes := ats }) ty pos after a C s r s' := by
  obtain ⟨hl, hr⟩ := args_rep hs args.toList ys hy
  obtain ⟨hcb, hcs⟩ := share_step hcall hs hl hr h
  exact ⟨f, _, fun dst g => run_call hcb args ats C.w dst g, hcs⟩

/-- A call of a function value. -/
theorem y_callV {call : Calls'} (hcall : CallOK num P call) (hs : SRep num C s a) {fo : Operand} {f' : Src} {args : Array Operand} {ats : Array TypeId} {ys : List Src} (hfo : trSrc num fo = some f') (hy : args.toList.mapM (trSrc num) = some ys) {fn : Nat} {caps : List AV} (hf : s.env.ev f' = .clo fn caps) {r : AV} {s' : St}
    (h : exShare call s fn (ys.map s.env.ev ++ caps) = some (r, s')) : CallsTo num P (.call { callee := .value fo, args := args, argTypes := ats }) ty pos after a C s r s' := by
  obtain ⟨hl, hr⟩ := args_rep hs args.toList ys hy
  have h1 := src_rep hs hfo
  rw [hf] at h1
  generalize hu : a.eval fo = u at h1
  cases h1 with
  | clo g _ vs hcl hcr =>
    have hl2 : (ys.map s.env.ev ++ caps).length = ((args.toList.map a.eval).toArray ++ vs).size := by rw [List.length_append, Array.size_append, hl, hcl]
    have hr2 : ∀ (j : Nat) (x : AV) (u : Value), (ys.map s.env.ev ++ caps)[j]? = some x → ((args.toList.map a.eval).toArray ++ vs)[j]? = some u → ARep num C x u := by
      intro j x u hx hu'
      rcases Nat.lt_or_ge j (ys.map s.env.ev).length with hj | hj
      · rw [List.getElem?_append_left hj] at hx
        rw [Array.getElem?_append_left (by rw [← hl]; exact hj)] at hu'
        exact hr j x u hx hu'
      · rw [List.getElem?_append_right hj] at hx
        rw [Array.getElem?_append_right (by rw [← hl]; exact hj), ← hl] at hu'
        exact hcr _ x u hx hu'
    obtain ⟨hcb, hcs⟩ := share_step hcall hs hl2 hr2 h
    refine ⟨g, _, fun dst gd => ?_, hcs⟩
    obtain ⟨fn', e1, e2, e3⟩ := hcb
    obtain ⟨body, hb⟩ := Option.isSome_iff_exists.1 e3
    have harr : args.map a.eval = (args.toList.map a.eval).toArray := by apply Array.ext'; simp
    simp [execOp, resolve, Deferred.ofValue, hu, invoke, callFunc, e1, e2, hb, harr]

end
end Go.EX
