import Derived.Test.YtmpldniokcfmbaaDoorK3
import Derived.Laws.Strings
import GoSem.Instr.MapUpdate
import Derived.MapKept
import Derived.LaidEqlPtr
import Derived.RangeFuncRecord
import Derived.Test.YtmpldniokcfmbaaDoorK2
set_option linter.unusedVariables false
set_option linter.unusedSimpArgs false
namespace Go.EX
section
variable {num : Names} {P : Program}
variable {ty : TypeId} {pos : String} {after : Array Edge} {a : Act} {C : Cx} {s : St}
def Cx.join (C D : Cx) (J : Nat → Prop) (k : Nat) : Cx := { σ := fun i => if i < C.n then C.σ i else D.σ (i - C.n), I := J, n := C.n + k, w := D.w }
theorem zhp {m mc : Mem} (hm : MRep num C m) {C0 D : Cx} (hw0 : C0.w = C.w) (hst : Step num 0 C0 [] D mc) {J : Nat → Prop} (hJ1 : ∀ b, C.I b → J b) (hJ2 : ∀ b, J b → C.I b ∨ C.w.heap.size ≤ b) (hJ3 : ∀ b, J b → b < D.w.heap.size) (hJ4 : ∀ b, Own D mc b → ¬ J b)
  (hobj : ∀ (i : Nat) o, mc[i]? = some o → ORep num (C.join D J mc.length) (C.n + i) (o.ren fun i => some (m.length + i))) {k : Nat} (hk : k ≤ m.length) :
  Step num k C m (C.join D J mc.length) (m ++ mc.map (AObj.ren fun i => some (m.length + i))) ∧ Tr some C (C.join D J mc.length) := by
 have hlen := hm.len
 have hsize : C.w.heap.size ≤ D.w.heap.size := by have := hst.size; rwa [hw0] at this
 have hkeep : ∀ b, b < C.w.heap.size → D.w.heap[b]? = C.w.heap[b]? := by
  intro b hb
  have := hst.keep b (by rw [hw0]; exact hb) fun ⟨i, o, h, _⟩ => by simp at h
  rwa [hw0] at this
 have hownD : ∀ b, Own D mc b → C.w.heap.size ≤ b := by
  intro b hb
  rcases hst.own b hb with h | ⟨i, o, h, _⟩
  ·rwa [hw0] at h
  ·simp at h
 have hσ1 : ∀ i, i < m.length → (C.join D J mc.length).σ i = C.σ i := fun i hi => by simp only [Cx.join]; rw [if_pos (by omega)]
 have hσ2 : ∀ i, (C.join D J mc.length).σ (m.length + i) = D.σ i := fun i => by simp only [Cx.join]; rw [if_neg (by omega)]; congr 1; omega
 have htr : Tr some C (C.join D J mc.length) := by
  refine ⟨hJ1, fun b hb => hkeep b (hm.bd b hb), fun i j hi hj => ?_⟩
  cases hj
  exact ⟨by simp only [Cx.join]; omega, hσ1 i (by omega), fun _ _ h => h.same (hkeep _ h.lt)⟩
 have split : ∀ (i : Nat) p, (m ++ mc.map (AObj.ren fun i => some (m.length + i)))[i]? = some p → (i < m.length ∧ m[i]? = some p) ∨ ∃ j q, i = m.length + j ∧ mc[j]? = some q ∧ p = q.ren fun i => some (m.length + i) := by
  intro i p hp
  rcases Nat.lt_or_ge i m.length with h | h
  ·rw [List.getElem?_append_left h] at hp; exact .inl ⟨h, hp⟩
  ·rw [List.getElem?_append_right h] at hp
   obtain ⟨q, hq, rfl⟩ := zi7 _ _ _ _ hp
   exact .inr ⟨i - m.length, q, by omega, hq, rfl⟩
 have hownE : ∀ b, Own (C.join D J mc.length) (m ++ mc.map (AObj.ren fun i => some (m.length + i))) b → Own C m b ∨ Own D mc b := by
  rintro b ⟨i, p, hp, hl, hb⟩
  rcases split i p hp with ⟨hi, hp'⟩ | ⟨j, q, rfl, hq, rfl⟩
  ·exact .inl ⟨i, p, hp', hl, by rw [← hσ1 i hi]; exact hb⟩
  ·rw [zmq] at hl
   exact .inr ⟨j, q, hq, hl, by rw [← hσ2 j]; exact hb⟩
 refine ⟨⟨⟨by simp [Cx.join, hlen], fun i p hp => ?_, fun i j p q hp hq hlp hlq he => ?_, fun b hb hJ => ?_, hJ3, num.up hm.glo htr.imm htr.keep⟩, by rw [← hw0]; exact hst.os, by rw [← hw0]; exact hst.tape, by rw [← hw0]; exact hst.out, hsize, fun b hb _ => hkeep b hb,
  fun _ _ _ h => h.same (hkeep _ h.lt), hJ1, fun b hb => ?_, fun b hb => ?_, fun i hi p hp hmv => ?_, by simp; omega⟩, htr⟩
 ·rcases split i p hp with ⟨hi, hp'⟩ | ⟨j, q, rfl, hq, rfl⟩
  ·have hob := hm.obj i p hp'
   exact zkg htr (hσ1 i hi) (fun x h => by show D.w.heap[_]? = _; rw [hkeep _ (Array.getElem?_eq_some_iff.1 h).1]; exact h) hob
  ·have := hobj j q hq
   rwa [← hlen] at this
 ·rcases split i p hp with ⟨hi, hp'⟩ | ⟨i', p', rfl, hp', rfl⟩ <;> rcases split j q hq with ⟨hj, hq'⟩ | ⟨j', q', rfl, hq', rfl⟩
  ·rw [hσ1 i hi, hσ1 j hj] at he; exact hm.inj i j p q hp' hq' hlp hlq he
  ·rw [zmq] at hlq
   rw [hσ1 i hi, hσ2] at he
   have h1 := MRep.lt num hm ⟨i, p, hp', hlp, rfl⟩
   have h2 := hownD _ ⟨j', q', hq', hlq, rfl⟩
   omega
  ·rw [zmq] at hlp
   rw [hσ1 j hj, hσ2] at he
   have h1 := MRep.lt num hm ⟨j, q, hq', hlq, rfl⟩
   have h2 := hownD _ ⟨i', p', hp', hlp, rfl⟩
   omega
  ·rw [zmq] at hlp hlq
   rw [hσ2, hσ2] at he
   rw [zqe]
   rcases hst.rep.inj i' j' p' q' hp' hq' hlp hlq he with h | h
   ·exact .inl (by rw [h])
   ·exact .inr h
 ·rcases hownE b hb with h | h
  ·rcases hJ2 b hJ with h' | h'
   ·exact hm.imm b h h'
   ·have := MRep.lt num hm h; omega
  ·exact hJ4 b h hJ
 ·rcases hJ2 b hb with h | h
  ·exact .inl h
  ·exact .inr (.inl h)
 ·rcases hownE b hb with h | h
  ·exact .inr h
  ·exact .inl (hownD b h)
 ·rcases split i p hp with ⟨hi', hp'⟩ | ⟨j, q, rfl, _, _⟩
  ·exact ⟨p, hp', hmv, hσ1 i hi'⟩
  ·omega
theorem zkk {D E : Cx} {f : Nat → Option Nat} (h : ∀ id j, id < D.n → f id = some j → j < E.n ∧ E.σ j = D.σ id ∧ ∀ n e, RowAt D.w (D.σ id) n e → RowAt (E.w) (D.σ id) n e)
  {x : AV} (ho : x.own1 = true) {v : Value} (hx : ARep num D x v) : ARep num E (x.ren f) v := by
 unfold AV.own1 at ho
 split at ho
 ·exact zle rfl hx E
 ·rename_i id off sz len cap
  cases hx with
  | osl _ _ _ _ _ c a arr e hid hl hk ha hw hs =>
   simp only [AV.ren]
   cases hf : f id with
   | none => exact .junk _
   | some j =>
    obtain ⟨h1, h2, h3⟩ := h id j hid hf
    have h4 := h3 arr e hw
    dsimp only
    rw [← h2] at h4 ⊢
    exact .osl j off sz len cap c a arr e h1 hl hk ha h4 hs
 ·rename_i id off
  cases hx with
  | optr _ _ hid =>
   simp only [AV.ren]
   cases hf : f id with
   | none => exact .junk _
   | some j =>
    obtain ⟨h1, h2, _⟩ := h id j hid hf
    dsimp only
    rw [← h2]
    exact .optr j off h1
 ·cases ho
theorem zkl {D E : Cx} {f : Nat → Option Nat} (h : ∀ id j, id < D.n → f id = some j → j < E.n ∧ E.σ j = D.σ id ∧ ∀ n e, RowAt D.w (D.σ id) n e → RowAt (E.w) (D.σ id) n e)
  {x : AV} (ho : x.own2 = true) {v : Value} (hx : ARep num D x v) : ARep num E (x.ren f) v := by
 unfold AV.own2 at ho
 split at ho
 ·rename_i cells
  cases hx with
  | agg _ vs hl h1 hr =>
   simp only [AV.ren]
   refine .agg _ vs (by rw [zmk]; exact hl) h1 fun j x u hx hu => ?_
   rw [zmi] at hx
   cases hq : cells[j]? with
   | none => simp [hq] at hx
   | some y => simp [hq] at hx; subst hx; exact zkk h (List.all_eq_true.1 ho y (List.mem_of_getElem? hq)) (hr j y u hq hu)
 ·exact zkk h ho hx
theorem zko {D E : Cx} {f : Nat → Option Nat} (h : ∀ id j, id < D.n → f id = some j → j < E.n ∧ E.σ j = D.σ id ∧ ∀ n e, RowAt D.w (D.σ id) n e → RowAt (E.w) (D.σ id) n e)
  {x : AV} (ho : x.own = true) {v : Value} (hx : ARep num D x v) : ARep num E (x.ren f) v := by
 unfold AV.own at ho
 split at ho
 ·rename_i xs
  cases hx with
  | tup _ vs hl hr =>
   simp only [AV.ren]
   refine .tup _ vs (by rw [zmk]; exact hl) fun j x u hx hu => ?_
   rw [zmi] at hx
   cases hq : xs[j]? with
   | none => simp [hq] at hx
   | some y => simp [hq] at hx; subst hx; exact zkl h (List.all_eq_true.1 ho y (List.mem_of_getElem? hq)) (hr j y u hq hu)
 ·exact zkl h ho hx
theorem y_own {call : Calls'} (hcall : CallOK num P call) (hs : SRep num C s a) {f : FuncId} {args : Array Operand} {ats : Array TypeId} {ys : List Src} (hy : args.toList.mapM (trSrc num) = some ys) {r : AV} {s' : St} (h : exOwn call s (num f) (ys.map s.env.ev) = some (r, s')) :
  CallsTo num P (.call { callee := .value (.func f), args := args, argTypes := ats }) ty pos after a C s r s' := by
 have hm := hs.mem
 have hlen := hm.len
 obtain ⟨hl, hr⟩ := zba hs args.toList ys hy
 unfold exOwn at h
 cases hf : (ys.map s.env.ev).mapM (frz s.mem) with
 | none => simp [hf] at h
 | some bs =>
  simp only [hf] at h
  cases hc : call (num f) bs [] with
  | none => simp [hc] at h
  | some rm =>
   obtain ⟨rv, mc⟩ := rm
   simp only [hc] at h
   split at h
   ·rename_i hcond
    simp only [Option.some.injEq, Prod.mk.injEq] at h
    obtain ⟨rfl, rfl⟩ := h
    by_cases himm : (ys.map s.env.ev).all AV.isImm = true
    ·let C0 : Cx := { σ := C.σ, I := C.I, n := 0, w := C.w }
     have hC0 : MRep num C0 [] := ⟨rfl, fun i o h => by simp at h, fun i j o p h => by simp at h, fun b ⟨i, o, h, _⟩ => by simp at h, hm.bd, hm.glo⟩
     obtain ⟨h1, h2⟩ := zi6 _ _ _ hf
     have h3 : ∀ (j : Nat) (x : AV) (u : Value), bs[j]? = some x → (args.toList.map a.eval).toArray[j]? = some u → ARep num C0 x u := by
      intro j x u hx hu
      obtain ⟨q, hq, hfq⟩ := h2 j x hx
      have hqi := List.all_eq_true.1 himm q (List.mem_of_getElem? hq)
      have := zf0 hqi hfq
      subst this
      exact zgy hqi (hr j x u hq hu) C0 (fun _ h => h) rfl
     obtain ⟨hcb, hcs⟩ := hcall.fn f bs [] rv mc C0 _ hc hC0 (by rw [h1]; exact hl) h3
     refine ⟨f, _, fun dst g => znm hcb args ats C.w dst g, hcs.mono ?_⟩
     rintro e w' ⟨v, D, rfl, rfl, hst, hrv⟩
     have hDn := hst.rep.len
     have tup : Tr (fun i => some (s.mem.length + i)) D (C.join D D.I mc.length) := by
      refine ⟨fun _ h => h, fun _ _ => rfl, fun i j hi hj => ?_⟩
      cases hj
      exact ⟨by simp only [Cx.join]; omega, by simp only [Cx.join]; rw [if_neg (by omega)]; congr 1; omega, fun _ _ h => h⟩
     obtain ⟨hj, ht⟩ := zhp (k := s.k) hm (C0 := C0) rfl hst (J := D.I) hst.imm (fun b hb => by
       rcases hst.imm' b hb with h | h | ⟨i, o, h, _⟩
       ·exact .inl h
       ·exact .inr h
       ·simp at h) hst.rep.bd hst.rep.imm (fun i o ho => zkh tup (by simp only [Cx.join]; rw [if_neg (by omega)]; congr 1; omega) (fun _ h => h) (hst.rep.obj i o ho)) hs.k
     exact ⟨v, C.join D D.I mc.length, rfl, rfl, hj, hs.env.mono ht, hrv.tr tup, rfl⟩
    ·have hown : rv.own = true ∧ mc.all AObj.own = true := by simpa [himm] using hcond
     have hvr := zq3 hm
     obtain ⟨h1, h2⟩ := za8 hm hf hl hr (C.view s.mem num) (fun _ h => h) rfl
     obtain ⟨hcb, hcs⟩ := hcall.fn f bs [] rv mc _ _ hc hvr h1 h2
     refine ⟨f, _, fun dst g => znm hcb args ats C.w dst g, hcs.mono ?_⟩
     rintro e w' ⟨v, D, rfl, rfl, hst, hrv⟩
     have hDn := hst.rep.len
     have hids : ∀ id j, id < D.n → (fun i => some (s.mem.length + i) : Nat → Option Nat) id = some j → j < (C.join D C.I mc.length).n ∧ (C.join D C.I mc.length).σ j = D.σ id ∧ ∀ n e, RowAt D.w (D.σ id) n e → RowAt ((C.join D C.I mc.length).w) (D.σ id) n e := by
      intro i j hi hj
      cases hj
      exact ⟨by simp only [Cx.join]; omega, by simp only [Cx.join]; rw [if_neg (by omega)]; congr 1; omega, fun _ _ h => h⟩
     obtain ⟨hj, ht⟩ := zhp (k := s.k) hm (C0 := C.view s.mem num) rfl hst (J := C.I) (fun _ h => h) (fun _ h => .inl h) (fun b hb => Nat.lt_of_lt_of_le (hm.bd b hb) hst.size) (fun b hb hI => hst.rep.imm b hb (hst.imm b (.inl hI))) (fun i o ho => by
       have hoo := List.all_eq_true.1 hown.2 o (List.mem_of_getElem? ho)
       have hob := hst.rep.obj i o ho
       have hσ : (C.join D C.I mc.length).σ (C.n + i) = D.σ i := by simp only [Cx.join]; rw [if_neg (by omega)]; congr 1; omega
       cases o with
       | flat cs mv =>
        obtain ⟨arr, e, h1, h2⟩ := hob
        refine ⟨arr, e, by rw [hσ]; exact h1, fun j x hx => ?_⟩
        obtain ⟨u, hu, hr'⟩ := h2 j x hx
        have hp := List.all_eq_true.1 hoo x (List.mem_of_getElem? hx)
        cases x with
        | val z => cases hr' with | val _ h => exact ⟨_, hu, .val _ h⟩
        | slice => cases hp
        | ptr => cases hp
       | rich cs =>
        obtain ⟨arr, e, h1, h2⟩ := hob
        refine ⟨arr, e, by rw [hσ]; exact h1, fun j x hx => ?_⟩
        rw [zmi] at hx
        cases hq : cs[j]? with
        | none => simp [hq] at hx
        | some y =>
         simp [hq] at hx
         subst hx
         obtain ⟨u, hu, h1c, hr'⟩ := h2 j y hq
         exact ⟨u, hu, h1c, zkk hids (List.all_eq_true.1 hoo y (List.mem_of_getElem? hq)) hr'⟩
       | map es => exact absurd hoo (by simp [AObj.own])
       | dead => trivial
       | fix => exact absurd hoo (by simp [AObj.own])
       | loop => exact absurd hoo (by simp [AObj.own])
       | text => exact absurd hoo (by simp [AObj.own])
       | iter => exact absurd hoo (by simp [AObj.own])) hs.k
     exact ⟨v, C.join D C.I mc.length, rfl, rfl, hj, hs.env.mono ht, zko hids hown.1 hrv, rfl⟩
   ·cases h
theorem zse {call : Calls'} (hcall : CallOK num P call) (hs : SRep num C s a) {f : FuncId} {args : Array Operand} {ats : Array TypeId} {ys : List Src} (hy : args.toList.mapM (trSrc num) = some ys) {r : AV} {s' : St} (h : exShare call s (num f) (ys.map s.env.ev) = some (r, s')) :
  CallsTo num P (.call { callee := .value (.func f), args := args, argTypes := ats }) ty pos after a C s r s' := by
 obtain ⟨hl, hr⟩ := zba hs args.toList ys hy
 obtain ⟨hcb, hcs⟩ := zox hcall hs hl hr h
 exact ⟨f, _, fun dst g => znm hcb args ats C.w dst g, hcs⟩
theorem zrw {call : Calls'} (hcall : CallOK num P call) (hs : SRep num C s a) {fo : Operand} {f' : Src} {args : Array Operand} {ats : Array TypeId} {ys : List Src} (hfo : trSrc num fo = some f') (hy : args.toList.mapM (trSrc num) = some ys) {fn : Nat} {caps : List AV} (hf : s.env.ev f' = .clo fn caps) {r : AV} {s' : St}
  (h : exShare call s fn (ys.map s.env.ev ++ caps) = some (r, s')) : CallsTo num P (.call { callee := .value fo, args := args, argTypes := ats }) ty pos after a C s r s' := by
 obtain ⟨hl, hr⟩ := zba hs args.toList ys hy
 have h1 := zpc hs hfo
 rw [hf] at h1
 generalize hu : a.eval fo = u at h1
 cases h1 with
 | clo g _ vs hcl hcr =>
  have hl2 : (ys.map s.env.ev ++ caps).length = ((args.toList.map a.eval).toArray ++ vs).size := by rw [List.length_append, Array.size_append, hl, hcl]
  have hr2 : ∀ (j : Nat) (x : AV) (u : Value), (ys.map s.env.ev ++ caps)[j]? = some x → ((args.toList.map a.eval).toArray ++ vs)[j]? = some u → ARep num C x u := by
   intro j x u hx hu'
   rcases Nat.lt_or_ge j (ys.map s.env.ev).length with hj | hj
   ·rw [List.getElem?_append_left hj] at hx
    rw [Array.getElem?_append_left (by rw [← hl]; exact hj)] at hu'
    exact hr j x u hx hu'
   ·rw [List.getElem?_append_right hj] at hx
    rw [Array.getElem?_append_right (by rw [← hl]; exact hj), ← hl] at hu'
    exact hcr _ x u hx hu'
  obtain ⟨hcb, hcs⟩ := zox hcall hs hl2 hr2 h
  refine ⟨g, _, fun dst gd => ?_, hcs⟩
  obtain ⟨fn', e1, e2, e3⟩ := hcb
  obtain ⟨body, hb⟩ := Option.isSome_iff_exists.1 e3
  have harr : args.map a.eval = (args.toList.map a.eval).toArray := by apply Array.ext'; simp
  simp [execOp, resolve, Deferred.ofValue, hu, invoke, callFunc, e1, e2, hb, harr]
theorem zsk {call : Calls'} (hcall : CallOK num P call) (hs : SRep num C s a) {fo : Operand} {f' : Src} {args : Array Operand} {ats : Array TypeId} {ys : List Src} (hfo : trSrc num fo = some f') (hy : args.toList.mapM (trSrc num) = some ys) {id : Nat} (hf : s.env.ev f' = .yld id) {r : AV} {s' : St}
  (h : exShare call s yieldNo (.yld id :: ys.map s.env.ev) = some (r, s')) : GoesRound num P (.call { callee := .value fo, args := args, argTypes := ats }) ty pos after a C s r s' := by
 obtain ⟨hl, hr⟩ := zba hs args.toList ys hy
 have h1 := zpc hs hfo
 rw [hf] at h1
 generalize hu : a.eval fo = u at h1
 cases h1 with
 | yld _ hid =>
  have hl2 : (AV.yld id :: ys.map s.env.ev).length = (#[Value.func (.yield (C.σ id)) #[] #[]] ++ (args.toList.map a.eval).toArray).size := by
   rw [List.length_cons, Array.size_append, hl]; simp; omega
  have hr2 : ∀ (j : Nat) (x : AV) (u : Value), (AV.yld id :: ys.map s.env.ev)[j]? = some x → (#[Value.func (.yield (C.σ id)) #[] #[]] ++ (args.toList.map a.eval).toArray)[j]? = some u → ARep num C x u := by
   intro j x u hx hu'
   cases j with
   | zero => simp at hx hu'; subst hx hu'; exact .yld id hid
   | succ j =>
    rw [List.getElem?_cons_succ] at hx
    rw [Array.getElem?_append_right (by simp)] at hu'
    exact hr j x u hx (by simpa using hu')
  obtain ⟨l, rv, mc, hc, hm, hl1, hr1, hback⟩ := zov hs hl2 hr2 h
  obtain ⟨fn, tmps, assign, body, hrun, hround⟩ := hcall.yld _ _ rv mc (C.pick l) (C.σ id) (args.toList.map a.eval).toArray hc hm (by rw [hl1]; simp)
   (fun x hx => hr1 0 x _ hx (by simp)) (fun j x u hx hu' => hr1 (j + 1) x u hx (by rw [Array.getElem?_append_right (by simp)]; simpa using hu'))
  refine ⟨C.σ id, fn, tmps, assign, body, fun dst gd => ?_, hround.mono ?_⟩
  ·have harr : args.map a.eval = (args.toList.map a.eval).toArray := by apply Array.ext'; simp
   have hrun' : (Instr.yield (C.σ id) (args.toList.map a.eval).toArray).run P C.w = .ok (.round (C.σ id) fn tmps assign body) C.w := hrun
   simp [execOp, resolve, Deferred.ofValue, hu, invoke, harr, hrun']
  ·rintro e w' ⟨v, D, rfl, rfl, hst, hrv⟩
   obtain ⟨E, h1, h2, h3, h4, h5⟩ := hback v D hst hrv
   exact ⟨v, E, rfl, h1, h2, h3, h4, h5⟩
end
end Go.EX


set_option linter.unusedVariables false
set_option linter.unusedSimpArgs false
namespace Go.EX
def sameV : List Nat → List Value → List Value → Option Bool
 | [], [], [] => some true
 | 0 :: ks, .int k a :: xs, .int j b :: ys => if k = j then (sameV ks xs ys).map fun r => a == b && r else none
 | 1 :: ks, .bool a :: xs, .bool b :: ys => (sameV ks xs ys).map fun r => a == b && r
 | 2 :: ks, .string a :: xs, .string b :: ys => (sameV ks xs ys).map fun r => a == b && r
 | _, _, _ => none
theorem zn7 {xs ys : List Value} {r : Bool} (h : sameV [] xs ys = some r) : r = true := by
 cases xs <;> cases ys <;> simp [sameV] at h; exact h
theorem zn8 {xs ys : List Value} {r : Bool} (h : sameV [] xs ys = some r) : xs = [] ∧ ys = [] := by
 cases xs <;> cases ys <;> simp [sameV] at h; exact ⟨rfl, rfl⟩
theorem zn6 : ∀ (ks : List Nat) (xs ys : List Value) (b : Bool), sameV ks xs ys = some b → xs.length = ks.length ∧ ys.length = ks.length
 | ks, xs, ys, b, h => by
  induction ks generalizing xs ys b with
  | nil => unfold sameV at h; split at h <;> simp_all
  | cons k ks ih =>
   unfold sameV at h
   split at h
   ·simp_all
   ·rename_i heq; cases heq
    split at h
    ·simp only [Option.map_eq_some_iff] at h; obtain ⟨r, hr, _⟩ := h; have := ih _ _ _ hr; simp [this]
    ·cases h
   ·rename_i heq; cases heq; simp only [Option.map_eq_some_iff] at h; obtain ⟨r, hr, _⟩ := h; have := ih _ _ _ hr; simp [this]
   ·rename_i heq; cases heq; simp only [Option.map_eq_some_iff] at h; obtain ⟨r, hr, _⟩ := h; have := ih _ _ _ hr; simp [this]
   ·cases h
theorem zn3 : ∀ (ks : List Nat) (xs ys : List AV) (b : Bool), sameCells ks xs ys = some b → ∃ cs ds : List Value, xs = cs.map (fun v => AV.imm (.val v)) ∧ ys = ds.map (fun v => AV.imm (.val v)) ∧ sameV ks cs ds = some b
 | ks, xs, ys, b, h => by
  induction ks generalizing xs ys b with
  | nil =>
   cases xs with
   | nil => cases ys with
    | nil => simp [sameCells] at h; exact ⟨[], [], rfl, rfl, by simp [sameV, h]⟩
    | cons => simp [sameCells] at h
   | cons => simp [sameCells] at h
  | cons k ks ih =>
   unfold sameCells at h
   split at h
   ·simp_all
   ·rename_i heq; cases heq
    split at h
    ·rename_i hk
     simp only [Option.map_eq_some_iff] at h; obtain ⟨r, hr, hb⟩ := h
     obtain ⟨cs, ds, rfl, rfl, h3⟩ := ih _ _ _ hr
     exact ⟨_ :: cs, _ :: ds, rfl, rfl, by simp [sameV, hk, h3, hb]⟩
    ·cases h
   ·rename_i heq; cases heq; simp only [Option.map_eq_some_iff] at h; obtain ⟨r, hr, hb⟩ := h
    obtain ⟨cs, ds, rfl, rfl, h3⟩ := ih _ _ _ hr
    exact ⟨_ :: cs, _ :: ds, rfl, rfl, by simp [sameV, h3, hb]⟩
   ·rename_i heq; cases heq; simp only [Option.map_eq_some_iff] at h; obtain ⟨r, hr, hb⟩ := h
    obtain ⟨cs, ds, rfl, rfl, h3⟩ := ih _ _ _ hr
    refine ⟨_ :: cs, _ :: ds, rfl, rfl, ?_⟩
    simp only [sameV, h3, Option.map_some, Option.some.injEq]
    rw [← hb, beq_toListBytes]
   ·cases h
theorem zn5 : ∀ (k1 k2 : List Nat) (xs ys : List Value) (b : Bool), sameV (k1 ++ k2) xs ys = some b → ∃ b1 b2, sameV k1 (xs.take k1.length) (ys.take k1.length) = some b1 ∧ sameV k2 (xs.drop k1.length) (ys.drop k1.length) = some b2 ∧ b = (b1 && b2)
 | k1, k2, xs, ys, b, h => by
  induction k1 generalizing xs ys b with
  | nil => exact ⟨true, b, by simp [sameV], by simpa using h, by simp⟩
  | cons k ks ih =>
   rw [List.cons_append] at h
   unfold sameV at h
   split at h
   ·simp_all
   ·rename_i heq; cases heq
    split at h
    ·rename_i hk
     simp only [Option.map_eq_some_iff] at h; obtain ⟨r, hr, hb⟩ := h
     obtain ⟨b1, b2, h1, h2, h3⟩ := ih _ _ _ hr
     refine ⟨_, b2, by simp only [List.length_cons, List.take_succ_cons, sameV, hk, if_true, h1, Option.map_some]; rfl, by simpa using h2, by rw [← hb, h3, Bool.and_assoc]⟩
    ·cases h
   ·rename_i heq; cases heq; simp only [Option.map_eq_some_iff] at h; obtain ⟨r, hr, hb⟩ := h
    obtain ⟨b1, b2, h1, h2, h3⟩ := ih _ _ _ hr
    refine ⟨_, b2, by simp only [List.length_cons, List.take_succ_cons, sameV, h1, Option.map_some]; rfl, by simpa using h2, by rw [← hb, h3, Bool.and_assoc]⟩
   ·rename_i heq; cases heq; simp only [Option.map_eq_some_iff] at h; obtain ⟨r, hr, hb⟩ := h
    obtain ⟨b1, b2, h1, h2, h3⟩ := ih _ _ _ hr
    refine ⟨_, b2, by simp only [List.length_cons, List.take_succ_cons, sameV, h1, Option.map_some]; rfl, by simpa using h2, by rw [← hb, h3, Bool.and_assoc]⟩
   ·cases h
theorem zbr {a b : ByteArray} (h : (a.toList == b.toList) = true) : b = a := by
 have := beq_iff_eq.1 h
 rw [ByteArray.toList_eq, ByteArray.toList_eq] at this
 cases a; cases b
 simp at this
 exact congrArg ByteArray.mk this.symm
theorem zn9 : ∀ (ks : List Nat) (xs ys : List Value), sameV ks xs ys = some true → ys = xs ∧ ((xs.zip xs).all fun p => Instr.sameBits 9999 p.1 p.2) = true
 | ks, xs, ys, h => by
  induction ks generalizing xs ys with
  | nil => obtain ⟨rfl, rfl⟩ := zn8 h; exact ⟨rfl, rfl⟩
  | cons k ks ih =>
   unfold sameV at h
   split at h
   ·simp_all
   ·rename_i heq; cases heq
    split at h
    ·rename_i hk; subst hk
     simp only [Option.map_eq_some_iff, Bool.and_eq_true, beq_iff_eq] at h
     obtain ⟨r, hr, rfl, rfl⟩ := h
     obtain ⟨rfl, h2⟩ := ih _ _ hr
     exact ⟨rfl, by simp only [List.zip_cons_cons, List.all_cons, h2, Bool.and_true]; simp [Instr.sameBits]⟩
    ·cases h
   ·rename_i heq; cases heq
    simp only [Option.map_eq_some_iff, Bool.and_eq_true, beq_iff_eq] at h
    obtain ⟨r, hr, rfl, rfl⟩ := h
    obtain ⟨rfl, h2⟩ := ih _ _ hr
    exact ⟨rfl, by simp only [List.zip_cons_cons, List.all_cons, h2, Bool.and_true]; simp [Instr.sameBits]⟩
   ·rename_i heq; cases heq
    simp only [Option.map_eq_some_iff, Bool.and_eq_true] at h
    obtain ⟨r, hr, hb, rfl⟩ := h
    obtain ⟨rfl, h2⟩ := ih _ _ hr
    rw [beq_toListBytes] at hb
    have e := zbr hb
    subst e
    refine ⟨rfl, by simp only [List.zip_cons_cons, List.all_cons, h2, Bool.and_true]; simp only [Instr.sameBits]; rw [beq_toListBytes]; simp⟩
   ·cases h
section
variable {P : Program}
def mkV (P : Program) (t : TypeId) (cs : List Value) : Value :=
 match P.underlying t with
 | some (.struct _) => .agg cs.toArray
 | _ => cs.headD undef
theorem znv {n : Nat} {t : TypeId} {l : List Nat} (hl : leaves P n t = some l) (hk : known P t = true) (hsz : P.cellsOf t = l.length) {us : Array Value} {k : Nat} (hlen : k + l.length ≤ us.size) (w : World) :
  (part t us k).run P w = .ok (mkV P t ((us.toList.drop k).take l.length)) w := by
 obtain ⟨i, d, hi, hd, hs, _⟩ := zh1 hk
 cases n with
 | zero => cases hl
 | succ n =>
  have one : ∀ (hag : (isAgg t).run P w = .ok false w) (hl1 : l.length = 1) (hm : ∀ c : List Value, mkV P t c = c.headD undef), (part t us k).run P w = .ok (mkV P t ((us.toList.drop k).take l.length)) w := by
   intro hag hl1 hm
   have hk' : k < us.size := by omega
   rw [hl1, hm]
   have e : (us.toList.drop k).take 1 = [us[k]] := by
    rw [List.drop_eq_getElem_cons (by simpa using hk')]; simp
   rw [e]
   simp [part, hag, hk']
  unfold leaves at hl
  split at hl
  ·rename_i h; cases hl
   exact one (by simp [isAgg, run_underlying h]) rfl (fun c => by simp [mkV, h])
  ·rename_i h; cases hl
   exact one (by simp [isAgg, run_underlying h]) rfl (fun c => by simp [mkV, h])
  ·rename_i h; cases hl
   exact one (by simp [isAgg, run_underlying h]) rfl (fun c => by simp [mkV, h])
  ·rename_i fs h
   have hag : (isAgg t).run P w = .ok true w := by simp [isAgg, run_underlying h]
   have hm : mkV P t ((us.toList.drop k).take l.length) = .agg ((us.toList.drop k).take l.length).toArray := by simp [mkV, h]
   rw [hm]
   have e : us.extract k (k + l.length) = ((us.toList.drop k).take l.length).toArray := by
    apply Array.toList_inj.1
    rw [Array.toList_extract]
    simp [List.extract]
   simp [part, hag, znz hi, ← hs, hsz, e]
  ·cases hl
theorem zdy (w : World) : ∀ (n : Nat) (t : TypeId) (ks : List Nat), leaves P n t = some ks → ∀ (d : Nat) (cs ds : List Value) (b : Bool), sameV ks cs ds = some b → (Op.equalIn (n + d) t (mkV P t cs) (mkV P t ds)).run P w = .ok b w := by
 intro n
 induction n with
 | zero => intro t ks h; cases h
 | succ n ih =>
  intro t ks h d cs ds b hb
  rw [show n + 1 + d = (n + d) + 1 by omega]
  unfold leaves at h
  split at h
  ·rename_i kk hk; cases h
   unfold sameV at hb
   split at hb <;> try (cases hb; done)
   ·simp_all
   ·rename_i heq; cases heq
    split at hb
    ·rename_i hkk; subst hkk
     simp only [Option.map_eq_some_iff] at hb
     obtain ⟨r, hr, rfl⟩ := hb
     obtain rfl : r = true := zn7 hr
     obtain ⟨rfl, rfl⟩ := zn8 hr
     simp only [mkV, hk, List.headD_cons, Bool.and_true]
     exact run_equalIn_int w (n + d) t _ kk _ _ hk
    ·cases hb
   ·rename_i heq; cases heq
   ·rename_i heq; cases heq
  ·rename_i hk; cases h
   unfold sameV at hb
   split at hb <;> try (cases hb; done)
   ·simp_all
   ·rename_i heq; cases heq
   ·rename_i heq; cases heq
    simp only [Option.map_eq_some_iff] at hb
    obtain ⟨r, hr, rfl⟩ := hb
    obtain rfl : r = true := zn7 hr
    obtain ⟨rfl, rfl⟩ := zn8 hr
    simp only [mkV, hk, List.headD_cons, Bool.and_true]
    exact Go.run_equalIn_bool w (n + d) t _ _ hk
   ·rename_i heq; cases heq
  ·rename_i hk; cases h
   unfold sameV at hb
   split at hb <;> try (cases hb; done)
   ·simp_all
   ·rename_i heq; cases heq
   ·rename_i heq; cases heq
   ·rename_i heq; cases heq
    simp only [Option.map_eq_some_iff] at hb
    obtain ⟨r, hr, rfl⟩ := hb
    obtain rfl : r = true := zn7 hr
    obtain ⟨rfl, rfl⟩ := zn8 hr
    simp only [mkV, hk, List.headD_cons, Bool.and_true]
    rw [run_equalIn_string w (n + d) t _ _ hk, ← beq_toListBytes]
  ·rename_i fs hk
   split at h
   ·cases h
   rename_i hst
   have hst' : P.stoodInHeld t = false := by simpa using hst
   have hfo : P.fieldsOf t = fs := by simp [Program.fieldsOf, hk]
   simp only [mkV, hk]
   rw [run_equalIn_struct w (n + d) t _ _ (by rw [hfo]; exact hk) hst', hfo]
   have hl := zn6 _ _ _ _ hb
   have key : ∀ (fs : List Field) (k : Nat) (ks : List Nat) (b : Bool), leavesF P (leaves P n) k fs = some ks → k + ks.length ≤ cs.length → k + ks.length ≤ ds.length → sameV ks (cs.drop k) (ds.drop k) = some b → (Op.eqFields (n + d) cs.toArray ds.toArray fs).run P w = .ok b w := by
    intro fs
    induction fs with
    | nil =>
     intro k ks b h _ _ hb
     simp only [leavesF, Option.some.injEq] at h
     subst h
     obtain rfl : b = true := zn7 hb
     rfl
    | cons f fs ihf =>
     intro k ks b h hc1 hc2 hb
     unfold leavesF at h
     split at h
     ·rename_i hcond
      simp only [Bool.and_eq_true, beq_iff_eq, bne_iff_ne] at hcond
      obtain ⟨⟨ho, hn⟩, hkn⟩ := hcond
      split at h
      ·rename_i l hl
       split at h
       ·rename_i hsz
        simp only [Option.map_eq_some_iff] at h
        obtain ⟨ks', hks', rfl⟩ := h
        obtain ⟨b1, b2, g1, g2, rfl⟩ := zn5 _ _ _ _ _ hb
        rw [List.length_append] at hc1 hc2
        have hp1 := znv hl hkn hsz (us := cs.toArray) (k := k) (by simpa using (by omega : k + l.length ≤ cs.length)) w
        have hp2 := znv hl hkn hsz (us := ds.toArray) (k := k) (by simpa using (by omega : k + l.length ≤ ds.length)) w
        have he := ih f.type l hl d _ _ b1 g1
        rw [List.drop_drop, List.drop_drop] at g2
        have hrest := ihf (k + l.length) ks' b2 hks' (by omega) (by omega) g2
        simp only [Op.eqFields]
        rw [if_pos hn]
        simp only [ho, Sem.run_bind, hp1, hp2, Result.andThen_ok, he]
        cases b1
        ·simp
        ·simp [hrest]
       ·cases h
      ·cases h
     ·cases h
   exact key fs.toList 0 ks b h (by omega) (by omega) (by simpa using hb)
  ·cases h
theorem zb9 (w : World) (e : Bool) : ∀ (n : Nat) (t : TypeId) (ks : List Nat), leaves P n t = some ks → ∀ (d : Nat) (cs : List Value), cs.length = ks.length → (Instr.checkKey e (n + d) t (mkV P t cs)).run P w = .ok () w := by
 intro n
 induction n with
 | zero => intro t ks h; cases h
 | succ n ih =>
  intro t ks h d cs hl
  rw [show n + 1 + d = (n + d) + 1 by omega]
  unfold leaves at h
  split at h
  ·rename_i kk hk
   simp only [Instr.checkKey, Sem.run_bind, run_underlying hk, Result.andThen_ok, Sem.run_pure]
  ·rename_i hk
   simp only [Instr.checkKey, Sem.run_bind, run_underlying hk, Result.andThen_ok, Sem.run_pure]
  ·rename_i hk
   simp only [Instr.checkKey, Sem.run_bind, run_underlying hk, Result.andThen_ok, Sem.run_pure]
  ·rename_i fs hk
   split at h
   ·cases h
   simp only [mkV, hk, Instr.checkKey, Sem.run_bind, run_underlying hk, Result.andThen_ok]
   rw [← Array.forIn_toList]
   have key : ∀ (fs : List Field) (k : Nat) (ks : List Nat), leavesF P (leaves P n) k fs = some ks → k + ks.length ≤ cs.length →
     (forIn fs PUnit.unit (fun f _ => (do
      if f.name ≠ "_" then Instr.checkKey e (n + d) f.type (← part f.type cs.toArray f.offset)
      pure (ForInStep.yield PUnit.unit) : Sem (ForInStep PUnit)))).run P w = .ok PUnit.unit w := by
    intro fs
    induction fs with
    | nil => intro k ks _ _; simp
    | cons f fs ihf =>
     intro k ks h hc
     unfold leavesF at h
     split at h
     ·rename_i hcond
      simp only [Bool.and_eq_true, beq_iff_eq, bne_iff_ne] at hcond
      obtain ⟨⟨ho, hn⟩, hkn⟩ := hcond
      split at h
      ·rename_i l hl'
       split at h
       ·rename_i hsz
        simp only [Option.map_eq_some_iff] at h
        obtain ⟨ks', hks', rfl⟩ := h
        rw [List.length_append] at hc
        have hp1 := znv hl' hkn hsz (us := cs.toArray) (k := k) (by simpa using (by omega : k + l.length ≤ cs.length)) w
        have he := ih f.type l hl' d ((cs.toArray.toList.drop k).take l.length) (by simp; omega)
        have hrest := ihf (k + l.length) ks' hks' (by omega)
        simp at hrest
        simp [List.forIn_cons, hn, ho, hp1, he, Result.andThen]
        exact hrest
       ·cases h
      ·cases h
     ·cases h
   have := key fs.toList 0 ks h (by omega)
   simp at this
   simp [this, Result.andThen]
  ·cases h
end
section
variable {num : Names} {P : Program}
variable {ty : TypeId} {pos : String} {after : Array Edge} {a : Act} {C : Cx} {s : St}
theorem zao {cs : List Value} {us : Array Value} (h : ARep num C (.agg (cs.map fun v => AV.imm (.val v))) (.agg us)) : us = cs.toArray := by
 cases h with
 | agg _ _ hl h1 hr =>
  apply Array.ext
  ·simpa using hl.symm
  ·intro i h1 h2
   have hc : i < cs.length := by simpa using h2
   have := hr i (.imm (.val cs[i])) us[i] (by simp [hc]) (by simp [h1])
   have := zmx this
   simpa using this
theorem zr0 (hs : SRep num C s a) {t yt : TypeId} {ks : List Nat} {x y : Operand} {x' y' : Src} {neg : Bool} (hx : trSrc num x = some x') (hy : trSrc num y = some y') (hf : eqStruct P t = some ks) {xs ys : List AV} (h1 : s.env.ev x' = .agg xs) (h2 : s.env.ev y' = .agg ys) {b : Bool} (hb : sameCells ks xs ys = some b) :
  Yields num P (.binOp (if neg then .neq else .eql) t x y yt) ty pos after a C s (.imm (.val (.bool (if neg then !b else b)))) s := by
 unfold eqStruct at hf
 split at hf
 ·rename_i ks' hf'
  cases hf
  exact zrz hs hx hy hf' h1 h2 hb
 ·split at hf
  ·rename_i fs ht
   split at hf
   ·cases hf
   rename_i hg
   have hg : P.eqGuardType P.depth t = false := by simpa using hg
   have hax := zpc hs hx
   have hay := zpc hs hy
   rw [h1] at hax
   rw [h2] at hay
   obtain ⟨cs, ds, rfl, rfl, hv⟩ := zn3 _ _ _ _ hb
   generalize hu : a.eval x = u at hax
   generalize hv' : a.eval y = v at hay
   have hu2 : ∃ us, u = .agg us := by cases hax with | agg _ us => exact ⟨us, rfl⟩
   have hv2 : ∃ us, v = .agg us := by cases hay with | agg _ us => exact ⟨us, rfl⟩
   obtain ⟨us, rfl⟩ := hu2
   obtain ⟨vs, rfl⟩ := hv2
   obtain rfl := zao hax
   obtain rfl := zao hay
   have hrun : (Op.equalIn 10000 t (.agg cs.toArray) (.agg ds.toArray)).run P C.w = .ok b C.w := by
    have := zdy C.w 100 t ks hf 9900 cs ds b hv
    simpa only [mkV, ht] using this
   refine zsl (v := .bool (if neg then !b else b)) hs (fun _ _ => ?_) (.imm _ _ (.val _ rfl))
   cases neg
   ·simp only [execOp, hu, hv', Sem.run_bind, Bool.false_eq_true, if_false, run_eqGuard_agg C.w _ t x y _ _ hg, Result.andThen_ok, run_eql_struct, hrun]
    rfl
   ·simp only [execOp, hu, hv', Sem.run_bind, if_true, run_eqGuard_agg C.w _ t x y _ _ hg, Result.andThen_ok, run_neq_struct, hrun]
    rfl
  ·cases hf
end
end Go.EX


set_option linter.unusedVariables false
set_option linter.unusedSimpArgs false
namespace Go.EX
section
variable {num : Names} {P : Program}
variable {ty : TypeId} {pos : String} {after : Array Edge} {a : Act} {C : Cx} {s : St}
theorem put_tr {m : Mem} (hm : MRep num C m) {id : Nat} {o : AObj} (ho : m[id]? = some o) (hlo : o.live = true) {w' : World}
  (hno : ∀ arr e fz, C.w.heap[C.σ id]? ≠ some (.cells arr e fz)) (hw : ∀ b, b ≠ C.σ id → w'.heap[b]? = C.w.heap[b]?) : Tr some C { C with w := w' } := by
 refine ⟨fun _ h => h, fun b hb => hw b fun e => hm.imm b ⟨id, o, ho, hlo, e.symm⟩ hb, fun i j hi hj => ?_⟩
 cases hj
 refine ⟨hi, rfl, fun arr e h => h.same (hw _ fun hc => ?_)⟩
 obtain ⟨a, fz, h1, _⟩ := h
 exact hno a e fz (by rw [← hc]; exact h1)
theorem zlz {m : Mem} (hm : MRep num C m) {id : Nat} {o o' : AObj} (ho : m[id]? = some o) (hlo : o.live = true) {w' : World}
  (hno : ∀ arr e fz, C.w.heap[C.σ id]? ≠ some (.cells arr e fz)) (hw : ∀ b, b ≠ C.σ id → w'.heap[b]? = C.w.heap[b]?) (hos : w'.os = C.w.os) (htp : w'.tape = C.w.tape) (hout : w'.output = C.w.output) (hsize : w'.heap.size = C.w.heap.size)
  (hmv : o.moved = false) (hr : ORep num { C with w := w' } id o') {k : Nat} (hk : k ≤ m.length) (hof : o.isFix = false := by rfl) :
  Step num k C m { C with w := w' } (m.set id o') := by
 have ht := put_tr hm ho hlo hno hw
 have back : ∀ (i : Nat) (p : AObj), (m.set id o')[i]? = some p → (i = id ∧ p = o') ∨ (i ≠ id ∧ m[i]? = some p) := by
  intro i p hp
  rw [zop] at hp
  split at hp
  ·rename_i hi; exact .inl ⟨hi.1.symm, (Option.some.inj hp).symm⟩
  ·rename_i hi
   exact .inr ⟨fun e => hi ⟨e.symm, (List.getElem?_eq_some_iff.1 hp).1⟩, hp⟩
 have hown : ∀ b, Own { C with w := w' } (m.set id o') b → Own C m b := by
  rintro b ⟨i, p, hp, hl, hb⟩
  rcases back i p hp with ⟨rfl, rfl⟩ | ⟨_, hp'⟩
  ·exact ⟨i, o, ho, hlo, hb⟩
  ·exact ⟨i, p, hp', hl, hb⟩
 refine ⟨⟨by simpa using hm.len, fun i p hp => ?_, fun i j p q hp hq hlp hlq hσ => ?_, fun b hb => hm.imm b (hown b hb), fun b hb => by show b < w'.heap.size; rw [hsize]; exact hm.bd b hb, num.up hm.glo ht.imm ht.keep⟩, hos, htp, hout, by show _ ≤ w'.heap.size; omega, fun b _ hb => hw b fun e => hb ⟨id, o, ho, hlo, e.symm⟩,
  fun b arr e h => h.same ?_, fun _ h => h, fun _ h => .inl h, fun b hb => .inr (hown b hb), fun i _ p hp hmp => ?_, by simpa using hk⟩
 ·rcases back i p hp with ⟨rfl, rfl⟩ | ⟨hne, hp'⟩
  ·exact hr
  ·by_cases hlp : p.live = true
   ·refine zkg ht rfl (fun x hx => ?_) (hm.obj i p hp')
    show w'.heap[C.σ i]? = _
    rw [hw _ fun e => hne (hm.inj2 num i id p o hp' ho hlp hlo hof e)]; exact hx
   ·cases p with
    | dead => trivial
    | _ => exact absurd rfl hlp
 ·have hl : ∀ (i : Nat) (p : AObj), (m.set id o')[i]? = some p → p.live = true → ∃ p' : AObj, m[i]? = some p' ∧ p'.live = true ∧ (p' = p ∨ p'.isFix = false) := by
   intro i p hp hl
   rcases back i p hp with ⟨rfl, rfl⟩ | ⟨_, hp'⟩
   ·exact ⟨o, ho, hlo, .inr hof⟩
   ·exact ⟨p, hp', hl, .inl rfl⟩
  obtain ⟨p', hp', hlp', hp3⟩ := hl i p hp hlp
  obtain ⟨q', hq', hlq', hq3⟩ := hl j q hq hlq
  rcases hm.inj i j p' q' hp' hq' hlp' hlq' hσ with h | h
  ·exact .inl h
  ·rcases hp3 with rfl | h3
   ·rcases hq3 with rfl | h4
    ·exact .inr h
    ·rw [(zqc h).2] at h4; cases h4
   ·rw [(zqc h).1] at h3; cases h3
 ·obtain ⟨a, fz, h1, _⟩ := h
  exact hw b fun e' => hno a e fz (by rw [← e']; exact h1)
 ·rcases back i p hp with ⟨rfl, rfl⟩ | ⟨_, hp'⟩
  ·exact ⟨o, ho, hmv, rfl⟩
  ·exact ⟨p, hp', hmp, rfl⟩
def IsK (P : Program) (w : World) (kt : TypeId) : Nat → Value → Prop
 | 0, v => ∃ j k n, P.underlying kt = some (.int j) ∧ v = .int k n
 | 1, v => ∃ b, P.underlying kt = some .bool ∧ v = .bool b
 | 2, v => ∃ b, P.underlying kt = some .string ∧ v = .string b
 | 3, v => ∃ e i b o, P.underlying kt = some (.pointer e) ∧ P.info? e = some i ∧ i.size ≠ 0 ∧ v = .pointer (some ⟨b, o, none⟩)
 | _ + 4, v => ∃ fs ks cs, P.underlying kt = some (.struct fs) ∧ leaves P 100 kt = some ks ∧ cs.length = ks.length ∧ v = mkV P kt cs
theorem zan {xs : List AV} {cs : List Value} (hx : xs = cs.map fun v => AV.imm (.val v)) {v : Value} (h : ARep num C (.agg xs) v) : v = .agg cs.toArray := by
 subst hx
 cases h with
 | agg _ us hl h1 h2 =>
  congr 1
  apply Array.toList_inj.1
  refine List.ext_getElem? fun j => ?_
  rw [List.length_map] at hl
  rcases Nat.lt_or_ge j cs.length with hj | hj
  ·have hju : j < us.size := by omega
   have := h2 j (.imm (.val cs[j])) us[j] (by simp [hj]) (by simp [hju])
   have := zmx this
   simp [hj, hju, this]
  ·rw [List.getElem?_eq_none (by simp; omega), List.getElem?_eq_none (by simpa using hj)]
theorem zjo {kt : TypeId} {kind : Nat} (h : keyKind P kt = some kind) (hk : kind < 4) (fs : Array Field) : P.underlying kt ≠ some (.struct fs) := by
 intro he
 unfold keyKind at h
 rw [he] at h
 dsimp only at h
 split at h
 ·split at h
  ·have := Option.some.inj h; omega
  ·cases h
 ·cases h
theorem zht {kt : TypeId} {kind : Nat} (h : keyKind P kt = some kind) {x : AV} {v : Value} (hx : ARep num C x v) (hk : isKeyAV kind x = true) : IsK P C.w kt kind v := by
 unfold keyKind at h
 split at h
 ·rename_i j hj
  cases h
  unfold isKeyAV at hk
  split at hk <;> first | (cases hk; done) | skip
  all_goals (rename_i h0; first | (cases h0; done) | skip)
  have := zmx hx
  subst this
  exact ⟨_, _, _, hj, rfl⟩
 ·rename_i hj
  cases h
  unfold isKeyAV at hk
  split at hk <;> first | (cases hk; done) | skip
  all_goals (rename_i h0; first | (cases h0; done) | skip)
  have := zmx hx
  subst this
  exact ⟨_, hj, rfl⟩
 ·rename_i hj
  cases h
  unfold isKeyAV at hk
  split at hk <;> first | (cases hk; done) | skip
  all_goals (rename_i h0; first | (cases h0; done) | skip)
  have := zmx hx
  subst this
  exact ⟨_, hj, rfl⟩
 ·rename_i e he
  split at h
  ·rename_i hc
   simp only [Bool.and_eq_true, decide_eq_true_eq] at hc
   cases h
   obtain ⟨i, d, h1, h2, h3, _⟩ := zh1 hc.1
   unfold isKeyAV at hk
   split at hk <;> first | (cases hk; done) | skip
   all_goals (rename_i h0; first | (cases h0; done) | skip)
   ·cases hx with
    | optr id off hid => exact ⟨e, i, _, _, he, h1, by rw [← h3]; omega, rfl⟩
   ·cases hx with
    | tag _ _ _ _ h ha => cases h with
     | ptr => exact ⟨e, i, _, _, he, h1, by rw [← h3]; omega, rfl⟩
  ·cases h
 ·rename_i fs hfs
  split at h
  ·rename_i ks hks
   split at h
   ·rename_i hdig
    cases h
    unfold isKeyAV at hk
    split at hk <;> first | (cases hk; done) | skip
    all_goals (rename_i h0; first | (cases h0; done) | skip)
    rename_i n xs
    have h0' : undigits ks = n := by simpa using h0
    subst h0'
    rw [hdig] at hk
    obtain ⟨b, hb⟩ := Option.isSome_iff_exists.1 hk
    obtain ⟨cs, ds, h1, _, h3⟩ := zn3 _ _ _ _ hb
    have hv := zan h1 hx
    exact ⟨fs, ks, cs, hfs, hks, (zn6 _ _ _ _ h3).1, by rw [hv]; simp [mkV, hfs]⟩
   ·cases h
  ·cases h
 ·cases h
theorem znn {w : World} {kt : TypeId} {kind : Nat} {v : Value} (h : IsK P w kt kind v) (e : Bool) (n : Nat) (hn : 99 ≤ n) : (Instr.checkKey e (n + 1) kt v).run P w = .ok () w := by
 match kind, h with
 | _ + 4, ⟨fs, ks, cs, h1, h2, h3, h4⟩ => subst h4; rw [show n + 1 = 100 + (n - 99) by omega]; exact zb9 w e 100 kt ks h2 (n - 99) cs h3
 | 0, ⟨j, k, n, h1, h2⟩ => subst h2; simp [Instr.checkKey, run_underlying h1, Result.andThen]
 | 1, ⟨b, h1, h2⟩ => subst h2; simp [Instr.checkKey, run_underlying h1, Result.andThen]
 | 2, ⟨b, h1, h2⟩ => subst h2; simp [Instr.checkKey, run_underlying h1, Result.andThen]
 | 3, ⟨e, i, b, o, h1, _, _, h2⟩ => subst h2; simp [Instr.checkKey, run_underlying h1, Result.andThen]
theorem zgn {m : Mem} (hm : MRep num C m) {id : Nat} (h : ((m[id]?).getD .dead).hasCells = true) : ∃ o arr e, m[id]? = some o ∧ o.live = true ∧ C.w.heap[C.σ id]? = some (.cells arr e (0, 0)) ∧ o.isFix = false := by
 cases hq : m[id]? with
 | none => simp [hq, AObj.hasCells] at h
 | some o =>
  simp only [hq, Option.getD_some] at h
  have h1 := hm.obj id o hq
  cases o with
  | flat => obtain ⟨arr, e, h2, _⟩ := h1; exact ⟨_, arr, e, rfl, rfl, h2, rfl⟩
  | rich => obtain ⟨arr, e, h2, _⟩ := h1; exact ⟨_, arr, e, rfl, rfl, h2, rfl⟩
  | map => cases h
  | dead => cases h
  | fix => cases h
  | loop => cases h
  | text => cases h
  | iter => cases h
theorem zhu {m : Mem} (hm : MRep num C m) {kt : TypeId} {kind : Nat} (hkt : keyKind P kt = some kind) {x y : AV} {u v : Value} (hx : ARep num C x u) (hy : ARep num C y v) {b : Bool} (h : keyEq m kind x y = some b) :
  (kind < 3 → ∃ d, P.underlying kt = some d ∧ Instr.sameNow d u v = some b) ∧ (3 ≤ kind → (∃ d, P.underlying kt = some d ∧ Instr.sameNow d u v = none) ∧ (Op.equal kt u v).run P C.w = .ok b C.w) := by
 unfold keyEq at h
 split at h
 ·rename_i k n j n'
  split at h
  ·rename_i hk
   cases h
   have e1 := zmx hx
   have e2 := zmx hy
   subst e1 e2 hk
   refine ⟨fun _ => ?_, fun h => absurd h (by decide)⟩
   have hns := zjo hkt (by decide)
   unfold keyKind at hkt
   split at hkt <;> first | (cases hkt; done) | (exact absurd ‹P.underlying kt = some (.struct _)› (hns _)) | skip
   ·rename_i hj; exact ⟨_, hj, by simp [Instr.sameNow]⟩
   ·split at hkt <;> cases hkt
  ·cases h
 ·cases h
  have e1 := zmx hx
  have e2 := zmx hy
  subst e1 e2
  refine ⟨fun _ => ?_, fun h => absurd h (by decide)⟩
  have hns := zjo hkt (by decide)
  unfold keyKind at hkt
  split at hkt <;> first | (cases hkt; done) | (exact absurd ‹P.underlying kt = some (.struct _)› (hns _)) | skip
  ·rename_i hj; exact ⟨_, hj, by simp [Instr.sameNow]⟩
  ·split at hkt <;> cases hkt
 ·cases h
  have e1 := zmx hx
  have e2 := zmx hy
  subst e1 e2
  refine ⟨fun _ => ?_, fun h => absurd h (by decide)⟩
  have hns := zjo hkt (by decide)
  unfold keyKind at hkt
  split at hkt <;> first | (cases hkt; done) | (exact absurd ‹P.underlying kt = some (.struct _)› (hns _)) | skip
  ·rename_i hj; exact ⟨_, hj, by simp [Instr.sameNow]⟩
  ·split at hkt <;> cases hkt
 ·rename_i i o j p
  split at h
  ·rename_i hc
   simp only [Bool.and_eq_true] at hc
   cases h
   cases hx with
   | optr _ _ hi =>
    cases hy with
    | optr _ _ hj =>
     refine ⟨fun h => absurd h (by decide), fun _ => ?_⟩
     have hns := zjo hkt (by decide)
     unfold keyKind at hkt
     split at hkt <;> first | (cases hkt; done) | (exact absurd ‹P.underlying kt = some (.struct _)› (hns _)) | skip
     rename_i e he
     split at hkt
     ·rename_i hk
      simp only [Bool.and_eq_true, decide_eq_true_eq] at hk
      obtain ⟨inf, d, h1, h2, h3, _⟩ := zh1 hk.1
      refine ⟨⟨_, he, by simp [Instr.sameNow]⟩, ?_⟩
      obtain ⟨o1, arr1, e1, g1, g2, g3, g7⟩ := zgn hm hc.1
      obtain ⟨o2, arr2, e2, g4, g5, g6, g8⟩ := zgn hm hc.2
      by_cases hs : i = j ∧ o = p
      ·obtain ⟨rfl, rfl⟩ := hs
       have hq : ∀ d : Nat, (Op.equalIn (d + 1) kt (.pointer (some ⟨C.σ i, o, none⟩)) (.pointer (some ⟨C.σ i, o, none⟩))).run P C.w = .ok true C.w := fun d => by
        simp [Op.equalIn, run_underlying he, sizeOf, typeInfo, h1, run_sameAddr_same]
       simpa [Op.equal, Op.maxDepth] using hq 9999
      ·have hne : (⟨C.σ i, o, none⟩ : Addr) ≠ ⟨C.σ j, p, none⟩ := by
        intro heq
        simp only [Addr.mk.injEq, and_true] at heq
        exact hs ⟨hm.inj1 num i j _ _ g1 g4 g2 g5 g7 heq.1, heq.2⟩
       have hb : (i == j && o == p) = false := by
        cases hb : (i == j && o == p) with
        | false => rfl
        | true => simp only [Bool.and_eq_true, beq_iff_eq] at hb; exact absurd hb hs
       rw [hb]
       have hsz : inf.size ≠ 0 := by rw [← h3]; omega
       have hq : ∀ d : Nat, (Op.equalIn (d + 1) kt (.pointer (some ⟨C.σ i, o, none⟩)) (.pointer (some ⟨C.σ j, p, none⟩))).run P C.w = .ok false C.w := fun d => by
        simp [Op.equalIn, run_underlying he, sizeOf, typeInfo, h1, hsz, run_sameAddr_other C.w hne g3 g6]
       simpa [Op.equal, Op.maxDepth] using hq 9999
     ·cases hkt
  ·cases h
 ·rename_i b1 a1 r1 o1 b2 a2 r2 o2
  split at h
  ·rename_i hbb
   cases h
   subst hbb
   cases hx with
   | tag _ _ _ _ hx hxa => cases hx with
    | ptr _ _ bb oo uu hb1 hc1 hu1 => cases hy with
     | tag _ _ _ _ hy hya => cases hy with
      | ptr _ _ bc oc uc hb2 hc2 hu2 =>
       simp only [adrOf, Option.some.injEq, Prod.mk.injEq] at hxa hya
       obtain ⟨rfl, rfl⟩ := hxa
       obtain ⟨rfl, rfl⟩ := hya
       refine ⟨fun h => absurd h (by decide), fun _ => ?_⟩
       have hns := zjo hkt (by decide)
       unfold keyKind at hkt
       split at hkt <;> first | (cases hkt; done) | (exact absurd ‹P.underlying kt = some (.struct _)› (hns _)) | skip
       rename_i e he
       split at hkt
       ·rename_i hk
        simp only [Bool.and_eq_true, decide_eq_true_eq] at hk
        obtain ⟨inf, d, h1, h2, h3, _⟩ := zh1 hk.1
        refine ⟨⟨_, he, by simp [Instr.sameNow]⟩, ?_⟩
        have hsz : inf.size ≠ 0 := by rw [← h3]; omega
        have hq : ∀ d : Nat, (Op.equalIn (d + 1) kt (.pointer (some ⟨bc, oo + o1, none⟩)) (.pointer (some ⟨bc, oc + o2, none⟩))).run P C.w = .ok (oo + o1 == oc + o2) C.w := fun d => by
         by_cases hab : oo + o1 = oc + o2
         ·rw [hab]; simp [Op.equalIn, run_underlying he, sizeOf, typeInfo, h1, run_sameAddr_same]
         ·have hf : (oo + o1 == oc + o2) = false := by simpa using hab
          rw [hf]
          simp [Op.equalIn, run_underlying he, sizeOf, typeInfo, h1, hsz, sameAddr, hab]
        simpa [Op.equal, Op.maxDepth] using hq 9999
       ·cases hkt
  ·cases h
 ·rename_i n xs ys
  refine ⟨fun h => absurd h (by omega), fun _ => ?_⟩
  unfold keyKind at hkt
  split at hkt <;> first | (cases hkt; done) | skip
  ·split at hkt
   ·have := Option.some.inj hkt; omega
   ·cases hkt
  rename_i fs hfs
  split at hkt
  ·rename_i ks hks
   split at hkt
   ·rename_i hdig
    have hn : undigits ks = n := by have := Option.some.inj hkt; omega
    subst hn
    rw [hdig] at h
    obtain ⟨cs, ds, h1, h2, h3⟩ := zn3 _ _ _ _ h
    have e1 := zan h1 hx
    have e2 := zan h2 hy
    subst e1 e2
    refine ⟨⟨_, hfs, by simp [Instr.sameNow]⟩, ?_⟩
    have := zdy (P := P) C.w 100 kt ks hks 9900 cs ds b h3
    simp only [mkV, hfs] at this
    exact this
   ·cases hkt
  ·cases hkt
 ·cases h
theorem znr {m : Mem} (hm : MRep num C m) {kt : TypeId} {kind : Nat} (hkt : keyKind P kt = some kind) {k : AV} {kv : Value} (hk : ARep num C k kv) {es : List (AV × AV)} {es' : List MapEntry} (hl : es'.length = es.length)
  (hes : ∀ (j : Nat) (p : AV × AV) (x : MapEntry), es[j]? = some p → es'[j]? = some x → ARep num C p.1 x.key) {r : Option Nat} (h : findK m kind k es 0 = some r) :
  ∃ q, (Instr.findKey kt kv es').run P C.w = .ok q C.w ∧ q = r.bind fun i => (es'[i]?).map fun x => (i, x.val) := by
 have hd : ∃ d, P.underlying kt = some d := by
  unfold keyKind at hkt
  split at hkt <;> first | (rename_i hd; exact ⟨_, hd⟩) | skip
  cases hkt
 obtain ⟨d, hd⟩ := hd
 by_cases h3 : 3 ≤ kind
 ·have asking : ∀ (es : List (AV × AV)) (es' : List MapEntry) (i : Nat) (r : Option Nat), es'.length = es.length → (∀ (j : Nat) (p : AV × AV) (x : MapEntry), es[j]? = some p → es'[j]? = some x → ARep num C p.1 x.key) → findK m kind k es i = some r →
    (Instr.findAsking kt kv es' i).run P C.w = .ok (r.bind fun j => (es'[j - i]?).map fun x => (j, x.val)) C.w ∧ (∀ j, r = some j → i ≤ j) := by
   intro es
   induction es with
   | nil =>
    intro es' i r hl _ h
    have : es' = [] := by simpa using hl
    subst this
    cases h
    exact ⟨by simp [Instr.findAsking], fun j hj => by cases hj⟩
   | cons e es ih =>
    intro es' i r hl hes h
    cases es' with
    | nil => simp at hl
    | cons e' es' =>
     simp only [findK] at h
     have h0 := hes 0 e e' rfl rfl
     cases hke : keyEq m kind k e.1 with
     | none => rw [hke] at h; cases h
     | some b =>
      rw [hke] at h
      obtain ⟨_, hrun⟩ := (zhu hm hkt hk h0 hke).2 h3
      cases b with
      | true =>
       cases h
       refine ⟨?_, fun j hj => by cases hj; exact Nat.le_refl _⟩
       simp [Instr.findAsking, hrun, Result.andThen]
      | false =>
       obtain ⟨g1, g2⟩ := ih es' (i + 1) r (by simpa using hl) (fun j p x hp hx => hes (j + 1) p x (by simpa using hp) (by simpa using hx)) h
       refine ⟨?_, fun j hj => by have := g2 j hj; omega⟩
       simp only [Instr.findAsking, Sem.run_bind, hrun, Result.andThen_ok, Bool.false_eq_true, if_false]
       rw [g1]
       cases r with
       | none => rfl
       | some j =>
        have := g2 j rfl
        simp only [Option.bind_some]
        rw [show j - i = (j - (i + 1)) + 1 by omega, List.getElem?_cons_succ]
  cases es with
  | nil =>
   have : es' = [] := by simpa using hl
   subst this
   cases h
   exact ⟨none, by simp [Instr.findKey, run_underlying hd, Result.andThen, Instr.findNow], rfl⟩
  | cons e es =>
   cases es' with
   | nil => simp at hl
   | cons e' es' =>
    have h0 := hes 0 e e' rfl rfl
    have hnow : Instr.findNow d kv (e' :: es') 0 = none := by
     simp only [findK] at h
     cases hke : keyEq m kind k e.1 with
     | none => rw [hke] at h; cases h
     | some b =>
      obtain ⟨⟨d', hd', hs⟩, _⟩ := (zhu hm hkt hk h0 hke).2 h3
      rw [hd] at hd'
      cases hd'
      simp [Instr.findNow, hs]
    obtain ⟨g1, _⟩ := asking (e :: es) (e' :: es') 0 r hl hes h
    refine ⟨_, ?_, rfl⟩
    simp only [Instr.findKey, Sem.run_bind, run_underlying hd, Result.andThen_ok, hnow]
    rw [g1]; simp
 ·have now : ∀ (es : List (AV × AV)) (es' : List MapEntry) (i : Nat) (r : Option Nat), es'.length = es.length → (∀ (j : Nat) (p : AV × AV) (x : MapEntry), es[j]? = some p → es'[j]? = some x → ARep num C p.1 x.key) → findK m kind k es i = some r →
    Instr.findNow d kv es' i = some (r.bind fun j => (es'[j - i]?).map fun x => (j, x.val)) ∧ (∀ j, r = some j → i ≤ j) := by
   intro es
   induction es with
   | nil =>
    intro es' i r hl _ h
    have : es' = [] := by simpa using hl
    subst this
    cases h
    exact ⟨rfl, fun j hj => by cases hj⟩
   | cons e es ih =>
    intro es' i r hl hes h
    cases es' with
    | nil => simp at hl
    | cons e' es' =>
     simp only [findK] at h
     have h0 := hes 0 e e' rfl rfl
     cases hke : keyEq m kind k e.1 with
     | none => rw [hke] at h; cases h
     | some b =>
      rw [hke] at h
      obtain ⟨d', hd', hs⟩ := (zhu hm hkt hk h0 hke).1 (by omega)
      rw [hd] at hd'
      cases hd'
      cases b with
      | true =>
       cases h
       exact ⟨by simp [Instr.findNow, hs], fun j hj => by cases hj; exact Nat.le_refl _⟩
      | false =>
       obtain ⟨g1, g2⟩ := ih es' (i + 1) r (by simpa using hl) (fun j p x hp hx => hes (j + 1) p x (by simpa using hp) (by simpa using hx)) h
       refine ⟨?_, fun j hj => by have := g2 j hj; omega⟩
       simp only [Instr.findNow, hs, g1]
       cases r with
       | none => rfl
       | some j =>
        have := g2 j rfl
        simp only [Option.bind_some]
        rw [show j - i = (j - (i + 1)) + 1 by omega, List.getElem?_cons_succ]
  obtain ⟨g1, _⟩ := now es es' 0 r hl hes h
  refine ⟨_, ?_, rfl⟩
  simp only [Instr.findKey, Sem.run_bind, run_underlying hd, Result.andThen_ok, g1]
  simp
theorem zfe {m : Mem} {kind : Nat} {k : AV} : ∀ (es : List (AV × AV)) (i0 i : Nat), findK m kind k es i0 = some (some i) → i0 ≤ i ∧ ∃ p, es[i - i0]? = some p ∧ keyEq m kind k p.1 = some true
 | [], i0, i, h => by cases h
 | e :: es, i0, i, h => by
  simp only [findK] at h
  cases hk : keyEq m kind k e.1 with
  | none => rw [hk] at h; cases h
  | some b =>
   rw [hk] at h
   cases b with
   | true => cases h; exact ⟨Nat.le_refl _, e, by simp, hk⟩
   | false =>
    obtain ⟨h1, p, h2, h3⟩ := zfe es (i0 + 1) i h
    refine ⟨by omega, p, ?_, h3⟩
    rw [show i - i0 = (i - (i0 + 1)) + 1 by omega, List.getElem?_cons_succ]; exact h2
theorem zhv {m : Mem} {kind : Nat} {x y : AV} {u v : Value} (hx : ARep num C x u) (hy : ARep num C y v) (h : keyEq m kind x y = some true) (w : World) : (Instr.keyThatStays v u).run P w = .ok u w := by
 have key : v = u ∧ Instr.sameBits 10000 v u = true := by
  unfold keyEq at h
  split at h
  ·split at h
   ·rename_i hk
    have e1 := zmx hx
    have e2 := zmx hy
    subst e1 e2 hk
    simp at h
    subst h
    exact ⟨rfl, by simp [Instr.sameBits]⟩
   ·cases h
  ·have e1 := zmx hx
   have e2 := zmx hy
   subst e1 e2
   simp at h
   subst h
   exact ⟨rfl, by simp [Instr.sameBits]⟩
  ·have e1 := zmx hx
   have e2 := zmx hy
   subst e1 e2
   simp only [Option.some.injEq] at h
   have := (MapKept.bytes_beq _ _).1 h
   subst this
   exact ⟨rfl, by simp only [Instr.sameBits]; exact h⟩
  ·split at h
   ·simp only [Option.some.injEq, Bool.and_eq_true, beq_iff_eq] at h
    obtain ⟨rfl, rfl⟩ := h
    cases hx with
    | optr => cases hy with
     | optr => exact ⟨rfl, by simp [Instr.sameBits]⟩
   ·cases h
  ·split at h
   ·rename_i hbb
    simp only [Option.some.injEq, beq_iff_eq] at h
    subst hbb h
    cases hx with
    | tag _ _ _ _ hx hxa => cases hx with
     | ptr => cases hy with
      | tag _ _ _ _ hy hya => cases hy with
       | ptr =>
        simp only [adrOf, Option.some.injEq, Prod.mk.injEq] at hxa hya
        obtain ⟨rfl, h1⟩ := hxa
        obtain ⟨rfl, h2⟩ := hya
        rw [h1, h2]
        exact ⟨rfl, by simp [Instr.sameBits]⟩
   ·cases h
  ·obtain ⟨cs, ds, h1, h2, h3⟩ := zn3 _ _ _ _ h
   have e1 := zan h1 hx
   have e2 := zan h2 hy
   subst e1 e2
   have := zn9 _ _ _ h3
   obtain ⟨rfl, hbits⟩ := this
   exact ⟨rfl, by simp [Instr.sameBits, hbits]⟩
  ·cases h
 obtain ⟨rfl, hb⟩ := key
 simp [Instr.keyThatStays, hb]
theorem zsn {t : TypeId} {zs : List Value} {agg : Bool} (h : zeroOf P t = some (zs, agg)) (D : Cx) : ∃ z, (∀ w, (zeroValue t).run P w = .ok z w) ∧ ARep num D (zeroAV zs agg) z := by
 unfold zeroOf at h
 cases hi : P.info? t with
 | none => simp [hi] at h
 | some i =>
  cases hz : i.zero with
  | none => simp [hi, hz] at h
  | some z =>
   have hrun : ∀ w, (zeroValue t).run P w = .ok z w := fun w => by simp [zeroValue, typeInfo, hi, hz]
   refine ⟨z, hrun, ?_⟩
   simp only [hi, Option.bind_some, hz] at h
   split at h
   ·rename_i cs heq
    cases heq
    split at h
    ·rename_i hone
     cases h
     refine .agg _ _ (by simp [imZ]) (fun j u hu => ?_) (fun j x u hx hu => ?_)
     ·rw [← zj1]
      exact List.all_eq_true.1 hone u (by rw [Array.mem_toList_iff]; exact Array.mem_of_getElem? hu)
     ·simp only [imZ, List.getElem?_map, Array.getElem?_toList, hu, Option.map_some, Option.some.injEq] at hx
      subst hx
      refine .imm _ _ (.val u ?_)
      rw [← zj1]
      exact List.all_eq_true.1 hone u (by rw [Array.mem_toList_iff]; exact Array.mem_of_getElem? hu)
    ·cases h
   ·rename_i z' _ heq
    cases heq
    split at h
    ·rename_i hone
     cases h
     exact .imm _ _ (.val _ (by rw [← zj1]; exact hone))
    ·cases h
   ·cases h
theorem zr6 (hs : SRep num C s a) {t kt e : TypeId} {r : Option Operand} {r' : Option Src} (ht : P.underlying t = some (.map kt e)) (hr : r.mapM (trSrc num) = some r') (hi : ∀ x, r' = some x → ∃ i, intOf (s.env.ev x) = some i) :
  Yields num P (.makeMap t r) ty pos after a C s (.omap s.mem.length) { s with mem := s.mem ++ [.map []] } := by
 have hlen := hs.mem.len
 have hnew : ORep num (C.more C.w (.map #[] 0)) C.n (.map []) := by
  refine ⟨#[], 0, ?_, rfl, fun j p x hp _ => by simp at hp⟩
  simp only [Cx.more, if_true]
  rw [zaw, if_pos rfl]
 refine ⟨.map (some C.w.heap.size), C.more C.w (.map #[] 0), fun _ _ => .inl ?_, zjh hs.mem rfl rfl rfl rfl _ (.map []) hnew hs.k, hs.env.mono (zji hs.mem rfl _), ?_, rfl⟩
 ·cases r with
  | none => simp [execOp, Instr.makeMap, newObj, Cx.more, Sem.run]
  | some x =>
   simp only [Option.mapM_some, Option.map_eq_map, Option.map_eq_some_iff] at hr
   obtain ⟨x', hx, rfl⟩ := hr
   obtain ⟨i, hi⟩ := hi x' rfl
   obtain ⟨k, hk, _⟩ := zmw (zpc hs hx) hi
   simp [execOp, Instr.makeMap, newObj, Cx.more, Sem.run, hk, run_underlying ht, asInt, asIntOf, Result.andThen]
 ·rw [hlen]
  have : C.w.heap.size = (C.more C.w (.map #[] 0)).σ C.n := by simp [Cx.more]
  rw [this]
  exact .omap _ (by simp [Cx.more])
theorem map_of {m : Mem} (hm : MRep num C m) {id : Nat} {v : Value} (h : ARep num C (.omap id) v) {es : List (AV × AV)} (he : m[id]? = some (.map es)) :
  ∃ (es' : Array MapEntry) (clock : Nat), v = .map (some (C.σ id)) ∧ C.w.heap[C.σ id]? = some (.map es' clock) ∧ es'.size = es.length ∧ ∀ (j : Nat) (p : AV × AV) (x : MapEntry), es[j]? = some p → es'[j]? = some x → ARep num C p.1 x.key ∧ ARep num C p.2 x.val := by
 cases h with
 | omap _ hid =>
  obtain ⟨es', clock, h1, h2, h3⟩ := hm.obj id _ he
  exact ⟨es', clock, rfl, h1, h2, h3⟩
theorem zkj {D : Cx} {x : AV} {v : Value} (h : ARep num D x v) (ok b : Bool) : ARep num D (if ok then .tup [x, .imm (.val (.bool b))] else x) (if ok then .tuple #[v, .bool b] else v) := by
 cases ok with
 | false => exact h
 | true =>
  refine .tup _ _ rfl fun j y u hy hu => ?_
  match j with
  | 0 => simp at hy hu; subst hy hu; exact h
  | 1 => simp at hy hu; subst hy hu; exact .imm _ _ (.val _ rfl)
  | j + 2 => simp at hy
theorem zr5 (hs : SRep num C s a) {t kt e : TypeId} {m k : Operand} {m' k' : Src} {kind : Nat} {zs : List Value} {agg ok : Bool} (ht : P.underlying t = some (.map kt e)) (hm : trSrc num m = some m') (hk : trSrc num k = some k') (hkt : keyKind P kt = some kind) (hz : zeroOf P e = some (zs, agg)) {call : Calls'} {r : AV} {s' : St}
  (h : exOp call s (.lookup kind zs agg m' k' ok) = some (r, s')) : Yields num P (.lookup t m k ok) ty pos after a C s r s' := by
 simp only [exOp] at h
 split at h
 ·rename_i hik
  have hkr := zpc hs hk
  have hmr := zpc hs hm
  have hisk := zht hkt hkr hik
  obtain ⟨z, hzr, hza⟩ := zsn (num := num) hz C
  generalize hmv : s.env.ev m' = mv at h hmr
  split at h
  ·have hv := zmx hmr
   have : r = (if ok then .tup [zeroAV zs agg, .imm (.val (.bool false))] else zeroAV zs agg) ∧ s' = s := by
    cases ok <;> (simp at h; exact ⟨h.1.symm, h.2.symm⟩)
   obtain ⟨rfl, rfl⟩ := this
   refine zsl hs (fun _ _ => ?_) (zkj hza ok false)
   have hd : ∃ d, P.underlying kt = some d := by
    unfold keyKind at hkt
    split at hkt <;> first | (rename_i hd; exact ⟨_, hd⟩) | skip
    cases hkt
   obtain ⟨d, hd⟩ := hd
   simp only [execOp, Instr.lookup, hv, Sem.run_bind, run_underlying ht, Result.andThen_ok, Sem.run_pure, znn hisk _ 9999 (by decide), Instr.findKey, run_underlying hd, Instr.findNow, hzr]
  ·rename_i id
   split at h
   ·rename_i es hes
    obtain ⟨es', clock, hv, hb, hl, hall⟩ := map_of hs.mem hmr hes
    have hkeys : ∀ (j : Nat) (p : AV × AV) (x : MapEntry), es[j]? = some p → es'.toList[j]? = some x → ARep num C p.1 x.key := fun j p x hp hx => (hall j p x hp (by simpa using hx)).1
    split at h
    ·rename_i hf
     obtain ⟨q, hq, hqe⟩ := znr hs.mem hkt hkr (es' := es'.toList) (by simpa using hl) hkeys hf
     have : r = (if ok then .tup [zeroAV zs agg, .imm (.val (.bool false))] else zeroAV zs agg) ∧ s' = s := by
      cases ok <;> (simp at h; exact ⟨h.1.symm, h.2.symm⟩)
     obtain ⟨rfl, rfl⟩ := this
     refine zsl hs (fun _ _ => ?_) (zkj hza ok false)
     simp only [Option.bind_none] at hqe
     subst hqe
     simp [execOp, Instr.lookup, hv, run_underlying ht, MapKept.run_getObj_map hb, znn hisk _ 9999 (by decide), hq, hzr, Result.andThen]
    ·rename_i i hf
     obtain ⟨q, hq, hqe⟩ := znr hs.mem hkt hkr (es' := es'.toList) (by simpa using hl) hkeys hf
     cases hp : es[i]? with
     | none => rw [hp] at h; cases h
     | some p =>
      rw [hp] at h
      have hi : i < es'.size := by rw [hl]; exact (List.getElem?_eq_some_iff.1 hp).1
      have hx : es'[i]? = some es'[i] := by simp [hi]
      have : r = (if ok then .tup [p.2, .imm (.val (.bool true))] else p.2) ∧ s' = s := by
       cases ok <;> (simp at h; exact ⟨h.1.symm, h.2.symm⟩)
      obtain ⟨rfl, rfl⟩ := this
      refine zsl hs (fun _ _ => ?_) (zkj (hall i p _ hp hx).2 ok true)
      simp only [Option.bind_some, Array.getElem?_toList, hx, Option.map_some] at hqe
      subst hqe
      simp [execOp, Instr.lookup, hv, run_underlying ht, MapKept.run_getObj_map hb, znn hisk _ 9999 (by decide), hq, Result.andThen]
    ·cases h
   ·cases h
  ·cases h
 ·cases h
theorem zr8 (hs : SRep num C s a) {t kt e : TypeId} {m k x : Operand} {m' k' x' : Src} {kind : Nat} (ht : P.underlying t = some (.map kt e)) (hm : trSrc num m = some m') (hk : trSrc num k = some k') (hx : trSrc num x = some x') (hkt : keyKind P kt = some kind) {call : Calls'} {r : AV} {s' : St}
  (h : exOp call s (.mapSet kind m' k' x') = some (r, s')) {op : Op} (hop : op = .mapUpdate t m k x ∨ op = .insert t m k x) : Yields num P op ty pos after a C s r s' := by
 simp only [exOp] at h
 split at h
 ·rename_i hik
  have hkr := zpc hs hk
  have hmr := zpc hs hm
  have hxr := zpc hs hx
  have hisk := zht hkt hkr hik
  generalize hmv : s.env.ev m' = mv at h hmr
  split at h
  ·rename_i id
   split at h
   ·rename_i es hes
    obtain ⟨es', clock, hv, hb, hl, hall⟩ := map_of hs.mem hmr hes
    have hkeys : ∀ (j : Nat) (p : AV × AV) (x : MapEntry), es[j]? = some p → es'.toList[j]? = some x → ARep num C p.1 x.key := fun j p x hp hx => (hall j p x hp (by simpa using hx)).1
    have hexec : ∀ {w' : World}, (Instr.mapUpdate t (.map (some (C.σ id))) (a.eval k) (a.eval x)).run P C.w = .ok () w' → ∀ dst g, (execOp a.eval ⟨dst, op, ty, pos, after, g⟩).run P C.w = .ok .skip w' := by
     intro w' hw dst g
     rcases hop with rfl | rfl <;> simp [execOp, hv, hw, Result.andThen]
    have hset : ∀ (es2 : Array MapEntry) (clock2 : Nat), let w' := { C.w with heap := C.w.heap.setIfInBounds (C.σ id) (.map es2 clock2) }
      w'.heap[C.σ id]? = some (.map es2 clock2) ∧ (∀ b, b ≠ C.σ id → w'.heap[b]? = C.w.heap[b]?) ∧ w'.heap.size = C.w.heap.size := by
     intro es2 clock2
     exact ⟨(MapKept.heap_set hb).1, (MapKept.heap_set hb).2, by simp⟩
    have hno : ∀ arr e fz, C.w.heap[C.σ id]? ≠ some (.cells arr e fz) := fun arr e fz h => by rw [hb] at h; cases h
    have build : ∀ (es2 : Array MapEntry) (clock2 : Nat) (l : List (AV × AV)), es2.size = l.length → (∀ (j : Nat) (p : AV × AV) (y : MapEntry), l[j]? = some p → es2[j]? = some y → ARep num C p.1 y.key ∧ ARep num C p.2 y.val) →
      (Instr.mapUpdate t (.map (some (C.σ id))) (a.eval k) (a.eval x)).run P C.w = .ok () { C.w with heap := C.w.heap.setIfInBounds (C.σ id) (.map es2 clock2) } →
      Yields num P op ty pos after a C s .junk { s with mem := s.mem.set id (.map l) } := by
     intro es2 clock2 l hl2 hall2 hrun
     obtain ⟨h1, h2, h3⟩ := hset es2 clock2
     have ht2 := put_tr hs.mem hes rfl hno h2
     have hnew : ORep num { C with w := { C.w with heap := C.w.heap.setIfInBounds (C.σ id) (.map es2 clock2) } } id (.map l) := by
      refine ⟨es2, clock2, h1, hl2, fun j p y hp hy => ?_⟩
      obtain ⟨g1, g2⟩ := hall2 j p y hp hy
      exact ⟨g1.mono ht2, g2.mono ht2⟩
     refine ⟨undef, { C with w := { C.w with heap := C.w.heap.setIfInBounds (C.σ id) (.map es2 clock2) } }, fun dst g => .inr ⟨hexec hrun dst g, rfl⟩, zlz hs.mem hes rfl hno h2 rfl rfl rfl h3 rfl (o' := .map l) hnew hs.k, hs.env.mono ht2, .junk _, rfl⟩
    split at h
    ·rename_i hf
     cases h
     obtain ⟨q, hq, hqe⟩ := znr hs.mem hkt hkr (es' := es'.toList) (by simpa using hl) hkeys hf
     simp only [Option.bind_none] at hqe
     subst hqe
     refine build (es'.push { key := a.eval k, val := a.eval x, born := clock }) (clock + 1) _ (by simp [hl]) (fun j p y hp hy => ?_) ?_
     ·rcases Nat.lt_or_ge j es.length with hj | hj
      ·rw [List.getElem?_append_left hj] at hp
       rw [Array.getElem?_push, if_neg (by omega)] at hy
       exact hall j p y hp hy
      ·have hj' : j = es.length := by
        have := (List.getElem?_eq_some_iff.1 hp).1
        simp at this; omega
       subst hj'
       simp at hp
       rw [Array.getElem?_push, if_pos hl.symm] at hy
       cases hy
       subst hp
       exact ⟨hkr, hxr⟩
     ·simp [Instr.mapUpdate, run_underlying ht, MapKept.run_getObj_map hb, znn hisk _ 9999 (by decide), hq, MapKept.run_setObj_map _ hb, Result.andThen]
    ·rename_i i hf
     cases h
     obtain ⟨q, hq, hqe⟩ := znr hs.mem hkt hkr (es' := es'.toList) (by simpa using hl) hkeys hf
     obtain ⟨_, p, hp, hke⟩ := zfe es 0 i hf
     simp only [Nat.sub_zero] at hp
     have hi : i < es'.size := by rw [hl]; exact (List.getElem?_eq_some_iff.1 hp).1
     have hx' : es'[i]? = some es'[i] := by simp [hi]
     simp only [Option.bind_some, Array.getElem?_toList, hx', Option.map_some] at hqe
     subst hqe
     have hstay := zhv (P := P) hkr (hall i p _ hp hx').1 hke C.w
     refine build (es'.modify i fun e => { e with key := a.eval k, val := a.eval x }) clock _ (by simp [hl]) (fun j p2 y hp2 hy => ?_) ?_
     ·rw [zop] at hp2
      rw [Array.getElem?_modify] at hy
      split at hp2
      ·rename_i hij
       obtain ⟨rfl, _⟩ := hij
       cases hp2
       rw [if_pos rfl, hx'] at hy
       cases hy
       exact ⟨hkr, hxr⟩
      ·rename_i hij
       have hne : i ≠ j := fun e => hij ⟨e, (List.getElem?_eq_some_iff.1 hp2).1⟩
       rw [if_neg hne] at hy
       exact hall j p2 y hp2 hy
     ·simp [Instr.mapUpdate, run_underlying ht, MapKept.run_getObj_map hb, znn hisk _ 9999 (by decide), hq, hx', hi, hstay, MapKept.run_setObj_map _ hb, Result.andThen]
    ·cases h
   ·cases h
  ·cases h
 ·cases h
theorem y_lenM (hs : SRep num C s a) {t kt e : TypeId} {x : Operand} {x' : Src} (hx : trSrc num x = some x') (ht : P.underlying t = some (.map kt e)) {call : Calls'} {r : AV} {s' : St} (h : exOp call s (.lenM x') = some (r, s')) :
  Yields num P (.call ⟨.builtin .len, #[x], #[t]⟩) ty pos after a C s r s' := by
 have hxr := zpc hs hx
 simp only [exOp] at h
 generalize hmv : s.env.ev x' = mv at h hxr
 split at h
 ·cases h
  have hv := zmx hxr
  refine zsl hs (fun _ _ => ?_) (.imm _ _ (.val _ rfl))
  simp [execOp, resolve, invoke, builtin, hv, Builtin.len_, run_underlying ht, goInt]
 ·rename_i id
  split at h
  ·rename_i es hes
   cases h
   obtain ⟨es', clock, hv, hb, hl, hall⟩ := map_of hs.mem hxr hes
   refine zsl hs (fun _ _ => ?_) (.imm _ _ (.val _ rfl))
   simp [execOp, resolve, invoke, builtin, hv, Builtin.len_, run_underlying ht, MapKept.run_getObj_map hb, goInt, hl, Result.andThen]
  ·cases h
 ·cases h
end
end Go.EX


set_option linter.unusedVariables false
set_option linter.unusedSimpArgs false
namespace Go.EX
section
variable {num : Names} {P : Program}
variable {ty : TypeId} {pos : String} {after : Array Edge} {a : Act} {C : Cx} {s : St}
theorem zsd (hs : SRep num C s a) {t : TypeId} {x : Operand} {x' : Src} (hx : trSrc num x = some x') (ht : P.underlying t = some .string) {b : ByteArray} (hb : s.env.ev x' = .imm (.val (.string b))) :
  Yields num P (.range t x) ty pos after a C s (.optr s.mem.length 0) { s with mem := s.mem ++ [.iter b 0] } := by
 have hu := zpd hs hx hb
 have hlen := hs.mem.len
 have hnew : ORep num (C.more C.w (.stringIter b 0)) C.n (.iter b 0) := by
  show (C.more C.w _).w.heap[(C.more C.w _).σ C.n]? = _
  simp only [Cx.more, if_true]
  rw [zaw, if_pos rfl]
 refine ⟨.pointer (some ⟨C.w.heap.size, 0, none⟩), C.more C.w (.stringIter b 0), fun _ _ => .inl ?_, zjh hs.mem rfl rfl rfl rfl _ (.iter b 0) hnew hs.k, hs.env.mono (zji hs.mem rfl _), ?_, rfl⟩
 ·simp [execOp, Instr.range, newObj, Cx.more, Sem.run, hu, run_underlying ht, Result.andThen]
 ·rw [hlen]
  have : C.w.heap.size = (C.more C.w (.stringIter b 0)).σ C.n := by simp [Cx.more]
  rw [this]
  exact .optr _ _ (by simp [Cx.more])
theorem zny {w : World} {l : Nat} {t : ByteArray} {i : Nat} (o : Obj) (h : w.heap[l]? = some (.stringIter t i)) : (setObj l o).run P w = .ok () (w.putObj l o) := by simp [setObj, Sem.run, h, World.putObj]
theorem zsb (hs : SRep num C s a) {x : Operand} {x' : Src} (hx : trSrc num x = some x') {id : Nat} (hb : s.env.ev x' = .optr id 0) {b : ByteArray} {i : Nat} (ho : s.mem[id]? = some (.iter b i)) {r : AV} {s' : St}
  (hr : (if i < b.size then some (AV.tup [.imm (.val (.bool true)), .imm (.val (.int .i64 (i : Nat))), .imm (.val (.int .i32 ((Utf8.decode b i).1 : Nat)))], { s with mem := s.mem.set id (.iter b (i + (Utf8.decode b i).2)) }) else some (.tup [.imm (.val (.bool false))], s)) = some (r, s')) :
  Yields num P (.next x true) ty pos after a C s r s' := by
 have hu := zpc hs hx
 rw [hb] at hu
 have hh : C.w.heap[C.σ id]? = some (.stringIter b i) := hs.mem.obj id _ ho
 have hu' : a.eval x = .pointer (some ⟨C.σ id, 0, none⟩) := by
  generalize a.eval x = u at hu
  cases hu with
  | optr _ _ hid => rfl
 by_cases hi : i < b.size
 ·rw [if_pos hi] at hr
  cases hr
  have hlt := (Array.getElem?_eq_some_iff.1 hh).1
  have hst := zlz hs.mem ho rfl (w' := C.w.putObj (C.σ id) (.stringIter b (i + (Utf8.decode b i).2))) (o' := .iter b (i + (Utf8.decode b i).2)) (fun arr e fz h => by rw [hh] at h; cases h)
   (fun c hc => World.putObj_heap_other hc) rfl rfl rfl (by simp) rfl (by show (C.w.putObj _ _).heap[C.σ id]? = _; exact World.putObj_heap_same hlt) hs.k
  have htr : Tr some C { C with w := C.w.putObj (C.σ id) (.stringIter b (i + (Utf8.decode b i).2)) } := put_tr hs.mem ho rfl (fun arr e fz h => by rw [hh] at h; cases h) (fun c hc => World.putObj_heap_other hc)
  refine ⟨.tuple #[.bool true, .int .i64 (i : Nat), .int .i32 ((Utf8.decode b i).1 : Nat)], _, fun _ _ => .inl ?_, hst, hs.env.mono htr, ?_, rfl⟩
  ·simp [execOp, Instr.next, getObj, Sem.run, hu', hh, hi, zny _ hh, goInt, Result.andThen]
  ·refine .tup _ _ rfl fun j y u hy hu => ?_
   match j with
   | 0 => simp at hy hu; subst hy; subst hu; exact .imm _ _ (.val _ rfl)
   | 1 => simp at hy hu; subst hy; subst hu; exact .imm _ _ (.val _ rfl)
   | 2 => simp at hy hu; subst hy; subst hu; exact .imm _ _ (.val _ rfl)
   | j + 3 => simp at hy
 ·rw [if_neg hi] at hr
  cases hr
  refine zsl (v := .tuple #[.bool false]) hs (fun _ _ => ?_) ?_
  ·simp [execOp, Instr.next, getObj, Sem.run, hu', hh, hi, Result.andThen]
  ·refine .tup _ _ rfl fun j y u hy hu => ?_
   match j with
   | 0 => simp at hy hu; subst hy; subst hu; exact .imm _ _ (.val _ rfl)
   | j + 1 => simp at hy
end
end Go.EX


set_option linter.unusedVariables false
set_option linter.unusedSimpArgs false
namespace Go.EX
theorem zhx : ∀ (ids : List Nat) (m : Mem), (killAll m ids).length = m.length
 | [], m => rfl
 | i :: r, m => by rw [killAll, zhx r, List.length_set]
theorem zhw : ∀ (ids : List Nat) (m : Mem) (j : Nat), (killAll m ids)[j]? = if j ∈ ids ∧ j < m.length then some .dead else m[j]?
 | [], m, j => by simp [killAll]
 | i :: r, m, j => by
  rw [killAll, zhw r, List.length_set, List.getElem?_set]
  by_cases h : j ∈ r ∧ j < m.length
  ·rw [if_pos h, if_pos ⟨List.mem_cons_of_mem _ h.1, h.2⟩]
  ·rw [if_neg h]
   by_cases hi : i = j
   ·subst hi
    by_cases hl : i < m.length
    ·rw [if_pos rfl, if_pos hl, if_pos ⟨List.mem_cons_self .., hl⟩]
    ·rw [if_pos rfl, if_neg hl, if_neg (fun c => hl c.2), List.getElem?_eq_none (by omega)]
   ·rw [if_neg hi, if_neg]
    rintro ⟨hm, hl⟩
    rcases List.mem_cons.1 hm with e | e
    ·exact hi e.symm
    ·exact h ⟨e, hl⟩
theorem zos (m : Mem) (row : Nat) : ∀ (cells : List AV) (ys : List IV) (ids : List Nat), settleAll m row cells = some (ys, ids) →
  (∀ i ∈ ids, i ≠ row ∧ ∃ cs mv, m[i]? = some (.flat cs mv)) ∧
  ∀ (j : Nat) y, ys[j]? = some y → cells[j]? = some (.imm y) ∨ ∃ id off sz len cap cs mv, cells[j]? = some (.osl id off sz len cap) ∧ id ∈ ids ∧ m[id]? = some (.flat cs mv) ∧ y = .slice cs off len cap
 | [], ys, ids, h => by
  cases h
  exact ⟨fun i hi => by simp at hi, fun j y hy => by simp at hy⟩
 | c :: r, ys, ids, h => by
  unfold settleAll at h
  split at h
  ·cases ‹_ = []›
  ·rename_i x r' he
   cases he
   rw [Option.map_eq_some_iff] at h
   obtain ⟨⟨y1, i1⟩, h1, h2⟩ := h
   cases h2
   obtain ⟨g1, g2⟩ := zos m row _ _ _ h1
   refine ⟨g1, fun j y hy => ?_⟩
   cases j with
   | zero => simp at hy; subst hy; exact .inl rfl
   | succ j => exact g2 j y (by simpa using hy)
  ·rename_i id off sz len cap r' he
   cases he
   split at h
   ·cases h
   ·rename_i hne
    split at h
    ·rename_i cs mv hid
     rw [Option.map_eq_some_iff] at h
     obtain ⟨⟨y1, i1⟩, h1, h2⟩ := h
     cases h2
     obtain ⟨g1, g2⟩ := zos m row _ _ _ h1
     refine ⟨fun i hi => ?_, fun j y hy => ?_⟩
     ·rcases List.mem_cons.1 hi with rfl | hi
      ·exact ⟨hne, cs, mv, hid⟩
      ·exact g1 i hi
     ·cases j with
      | zero =>
       simp at hy; subst hy
       exact .inr ⟨id, off, sz, len, cap, cs, mv, rfl, List.mem_cons_self .., hid, rfl⟩
      | succ j =>
       rcases g2 j y (by simpa using hy) with h | ⟨id', off', sz', len', cap', cs', mv', h3, h4, h5, h6⟩
       ·exact .inl h
       ·exact .inr ⟨id', off', sz', len', cap', cs', mv', h3, List.mem_cons_of_mem _ h4, h5, h6⟩
    ·cases h
  ·cases h
section
variable {num : Names} {P : Program}
variable {ty : TypeId} {pos : String} {after : Array Edge} {a : Act} {C : Cx} {s : St}
def Cx.still (C : Cx) (ids : List Nat) : Cx := { C with I := fun b => C.I b ∨ ∃ i ∈ ids, C.σ i = b }
theorem zpi (C : Cx) (ids : List Nat) : Tr some C (C.still ids) :=
 ⟨fun b hb => .inl hb, fun b _ => rfl, fun id j hid hj => by cases hj; exact ⟨hid, rfl, fun _ _ h => h⟩⟩
theorem zot {m : Mem} (hm : MRep num C m) {k : Nat} (hk : k ≤ m.length) {row : Nat} {cells : List AV} {ys : List IV} {ids : List Nat} (hrow : m[row]? = some (.rich cells)) (hset : settleAll m row cells = some (ys, ids)) :
  Step num k C m (C.still ids) (killAll (m.set row (.flat ys false)) ids) := by
 obtain ⟨g1, g2⟩ := zos m row _ _ _ hset
 have ht := zpi C ids
 have hrl : row < m.length := (List.getElem?_eq_some_iff.1 hrow).1
 have hget : ∀ (j : Nat) o', (killAll (m.set row (.flat ys false)) ids)[j]? = some o' → (j ∈ ids ∧ o' = .dead) ∨ (j = row ∧ j ∉ ids ∧ o' = .flat ys false) ∨ (j ∉ ids ∧ j ≠ row ∧ m[j]? = some o') := by
  intro j o' h
  rw [zhw, List.length_set, List.getElem?_set] at h
  by_cases hj : j ∈ ids
  ·by_cases hl : j < m.length
   ·rw [if_pos ⟨hj, hl⟩] at h
    exact .inl ⟨hj, (Option.some.inj h).symm⟩
   ·obtain ⟨_, cs, mv, h2⟩ := g1 j hj
    exact absurd (List.getElem?_eq_some_iff.1 h2).1 hl
  ·rw [if_neg (fun c => hj c.1)] at h
   by_cases hr : row = j
   ·subst hr
    rw [if_pos rfl, if_pos hrl] at h
    exact .inr (.inl ⟨rfl, hj, (Option.some.inj h).symm⟩)
   ·rw [if_neg hr] at h
    exact .inr (.inr ⟨hj, fun e => hr e.symm, h⟩)
 have hwas : ∀ (j : Nat) o', (killAll (m.set row (.flat ys false)) ids)[j]? = some o' → o'.live = true → j ∉ ids ∧ ∃ o, m[j]? = some o ∧ o.live = true ∧ (o = o' ∨ (j = row ∧ o.isFix = false)) := by
  intro j o' h hl
  rcases hget j o' h with ⟨_, rfl⟩ | ⟨rfl, hj, rfl⟩ | ⟨hj, _, h⟩
  ·cases hl
  ·exact ⟨hj, _, hrow, rfl, .inr ⟨rfl, rfl⟩⟩
  ·exact ⟨hj, o', h, hl, .inl rfl⟩
 have hown : ∀ b, Own (C.still ids) (killAll (m.set row (.flat ys false)) ids) b → Own C m b := by
  rintro b ⟨j, o', h, hl, hb⟩
  obtain ⟨_, o, ho, hlo, _⟩ := hwas j o' h hl
  exact ⟨j, o, ho, hlo, hb⟩
 refine ⟨⟨?_, ?_, ?_, ?_, ?_, ?_⟩, rfl, rfl, rfl, Nat.le_refl _, fun _ _ _ => rfl, fun _ _ _ h => h, fun b hb => .inl hb, ?_, fun b hb => .inr (hown b hb), ?_, ?_⟩
 ·rw [zhx, List.length_set]; exact hm.len
 ·intro j o' h
  rcases hget j o' h with ⟨_, rfl⟩ | ⟨rfl, hj, rfl⟩ | ⟨_, _, h⟩
  ·trivial
  ·obtain ⟨arr, e, h1, h2⟩ := hm.obj j _ hrow
   refine ⟨arr, e, h1, fun q y hy => ?_⟩
   rcases g2 q y hy with hc | ⟨id, off, sz, len, cap, cs, mv, hc, hid, hflat, rfl⟩
   ·obtain ⟨u, hu, _, hr⟩ := h2 q _ hc
    cases hr with
    | imm _ _ hi => exact ⟨u, hu, hi.mono ht.imm ht.keep⟩
   ·obtain ⟨u, hu, _, hr⟩ := h2 q _ hc
    refine ⟨u, hu, ?_⟩
    cases hr with
    | osl _ _ _ _ _ c ad arr0 e0 hid' hl hk' ha hw hs =>
     obtain ⟨arr2, e2, h3, h4⟩ := hm.obj id _ hflat
     have hcell : ∀ (p : Nat) x, cs[p]? = some x → C.w.cell? ⟨C.σ id, 0 + p, none⟩ = some (arr2.getD p undef) ∧ IRep C.I C.w x (arr2.getD p undef) := by
      intro p x hx
      obtain ⟨u, hu, hr⟩ := h4 p x hx
      have : arr2.getD p undef = u := by simp [Array.getD_eq_getD_getElem?, hu]
      rw [this]
      exact ⟨by rw [cell_of_row C.w _ _ arr2 e2 _ h3, Nat.zero_add]; exact hu, hr⟩
     exact .slice cs off len cap (C.σ id) 0 c ad (fun p => arr2.getD p undef) (.inr ⟨id, hid, rfl⟩) (fun p x hx => (hcell p x hx).1) (fun p x hx => (hcell p x hx).2.mono ht.imm ht.keep) hl.1 hk' (by rw [Nat.zero_add]; exact ha)
  ·exact zkg ht rfl (fun _ h => h) (hm.obj j o' h)
 ·intro i j o p hi hj hlo hlp he
  obtain ⟨_, o1, ho1, hl1, hw1⟩ := hwas i o hi hlo
  obtain ⟨_, p1, hp1, hl2, hw2⟩ := hwas j p hj hlp
  rcases hm.inj i j o1 p1 ho1 hp1 hl1 hl2 he with h | h
  ·exact .inl h
  ·obtain ⟨t1, t2⟩ := zqc h
   rcases hw1 with rfl | ⟨_, hf⟩
   ·rcases hw2 with rfl | ⟨_, hf⟩
    ·exact .inr h
    ·rw [t2] at hf; cases hf
   ·rw [t1] at hf; cases hf
 ·rintro b ⟨j, o', h, hl, hb⟩ hI
  obtain ⟨hj, o, ho, hlo, _⟩ := hwas j o' h hl
  rcases hI with hI | ⟨i, hi, hσ⟩
  ·exact hm.imm b ⟨j, o, ho, hlo, hb⟩ hI
  ·obtain ⟨_, cs, mv, hflat⟩ := g1 i hi
   have := hm.inj1 num i j _ o hflat ho rfl hlo rfl (hσ.trans hb.symm)
   subst this
   exact hj hi
 ·rintro b (hI | ⟨i, hi, rfl⟩)
  ·exact hm.bd b hI
  ·obtain ⟨_, cs, mv, hflat⟩ := g1 i hi
   exact hm.lt num ⟨i, _, hflat, rfl, rfl⟩
 ·exact num.up hm.glo (fun b hb => .inl hb) (fun _ _ => rfl)
 ·rintro b (hI | ⟨i, hi, rfl⟩)
  ·exact .inl hI
  ·obtain ⟨_, cs, mv, hflat⟩ := g1 i hi
   exact .inr (.inr ⟨i, _, hflat, rfl, rfl⟩)
 ·intro i hi o' ho hmv
  rcases hget i o' ho with ⟨_, rfl⟩ | ⟨rfl, _, rfl⟩ | ⟨_, _, h⟩
  ·cases hmv
  ·exact ⟨_, hrow, rfl, rfl⟩
  ·exact ⟨o', h, hmv, rfl⟩
 ·rw [zhx, List.length_set]; exact hk
theorem zf2 (hs : SRep num C s a) {op : Op} {x : Operand} {y : Src} (hop : ∀ dst g, (execOp a.eval ⟨dst, op, ty, pos, after, g⟩).run P C.w = .ok (.value (a.eval x)) C.w) (h : trSrc num x = some y) {r : AV} {s' : St} (he : exFrz s (s.env.ev y) = some (r, s')) : Yields num P op ty pos after a C s r s' := by
 have hv := zpc hs h
 unfold exFrz at he
 split at he
 ·rename_i z hz
  cases he
  rw [hz] at hv
  exact zsl hs hop hv
 ·rename_i id off sz len cap hz
  rw [hz] at hv
  split at he
  ·cases he
   exact zsl hs hop hv
  ·rename_i cells hid
   split at he
   ·rename_i ys ids hset
    cases he
    have hst := zot (k := s.k) hs.mem hs.k hid hset
    exact ⟨_, C.still ids, fun dst g => .inl (hop dst g), hst, hs.env.mono (zpi C ids), hv.mono (zpi C ids), rfl⟩
   ·cases he
  ·cases he
 ·cases he
theorem y_frz (hs : SRep num C s a) {x : Operand} {y : Src} (h : trSrc num x = some y) {r : AV} {s' : St} (he : exFrz s (s.env.ev y) = some (r, s')) : Yields num P (.move x) ty pos after a C s r s' := zf2 hs (fun _ _ => rfl) h he
theorem y_frzA (hs : SRep num C s a) {x : Operand} {y : Src} (h : trSrc num x = some y) {r : AV} {s' : St} (he : exFrz s (s.env.ev y) = some (r, s')) : Yields num P (.assign x) ty pos after a C s r s' := zf2 hs (fun _ _ => rfl) h he
end
end Go.EX


set_option linter.unusedVariables false
set_option linter.unusedSimpArgs false
namespace Go.EX
section
variable {num : Names} {P : Program}
variable {ty : TypeId} {pos : String} {after : Array Edge} {a : Act} {C : Cx} {s : St}
theorem zie {x : AV} {v : Value} (h : ARep num C x v) {n : Nat} (hn : lenOf x = some n) : ∃ ba c, v = .slice ba n c := by
 unfold lenOf at hn
 split at hn
 ·cases hn; have := zmx h; subst this; exact ⟨_, _, rfl⟩
 ·cases hn; cases h with | imm _ _ h => cases h with
   | slice => exact ⟨_, _, rfl⟩
   | vac => exact ⟨_, _, rfl⟩
 ·cases hn; cases h with | tag _ _ _ _ h _ => cases h with
   | slice => exact ⟨_, _, rfl⟩
   | vac => exact ⟨_, _, rfl⟩
 ·cases hn; cases h with
   | osl => exact ⟨_, _, rfl⟩
 ·cases hn
theorem zoz {x : AV} {ba : Option Addr} {n c : Nat} (h : ARep num C x (.slice ba n c)) {k : Nat} (hk : k ≤ n) (h0 : k ≠ 0) (hn : lenOf x = some n) : ARep num C (shorten k x) (.slice ba k c) := by
 unfold lenOf at hn
 split at hn
 ·cases hn; omega
 ·cases hn; cases h with | imm _ _ h => cases h with
   | slice row off len cap b o c a u hb hc hu hl hkk ha => exact .imm _ _ (.slice _ _ k _ b o c a u hb hc hu (by omega) hkk ha)
   | vac => omega
 ·cases hn; cases h with | tag _ _ _ _ h hadr => cases h with
   | slice row off len cap b o c a u hb hc hu hl hkk ha => exact .tag _ _ _ _ (.slice _ _ k _ b o c a u hb hc hu (by omega) hkk ha) hadr
   | vac => omega
 ·cases hn; cases h with
   | osl id off sz len cap c a arr e hid hl hkk ha hw hs => exact .osl _ _ _ k _ c a arr e hid (by omega) hkk ha hw hs
 ·cases hn
theorem zfg {w : World} (sz n : Nat) (ba : Option Addr) (len c : Nat) (h : n * sz = 0) : (Builtin.firstCells sz n (.slice ba len c)).run P w = .ok #[] w := by
 cases ba with
 | none => rfl
 | some ad =>
  simp only [Builtin.firstCells, h]
  have := run_loadCells (P := P) w ad 0 (fun _ => undef) (fun j hj => by omega)
  simpa using this
theorem y_copy (hs : SRep num C s a) {t u e : TypeId} {d x : Operand} {d' x' : Src} (hd : trSrc num d = some d') (hx : trSrc num x = some x') (ht : P.underlying t = some (.slice e)) (hk : known P e = true) {call : Calls'} {r : AV} {s' : St}
  (h : exOp call s (.copy (P.cellsOf e) d' x') = some (r, s')) : Yields num P (.call { callee := .builtin .copy, args := #[d, x], argTypes := #[t, u] }) ty pos after a C s r s' := by
 obtain ⟨i, de, hi, hde, hsz, _⟩ := zh1 hk
 have hdr := zpc hs hd
 have hxr := zpc hs hx
 simp only [exOp] at h
 generalize hdv : s.env.ev d' = dv at h hdr
 generalize hxv : s.env.ev x' = xv at h hxr
 split at h
 ·rename_i dl n hdl hn
  obtain ⟨db, dc, hde'⟩ := zie hdr hdl
  obtain ⟨xb, xc, hxe⟩ := zie hxr hn
  have hexec : ∀ {k : Nat} {w' : World}, (Builtin.copy_ #[t, u] ty #[.slice db dl dc, .slice xb n xc]).run P C.w = .ok (goInt k) w' → ∀ dst g, (execOp a.eval ⟨dst, .call { callee := .builtin .copy, args := #[d, x], argTypes := #[t, u] }, ty, pos, after, g⟩).run P C.w = .ok (.value (goInt k)) w' := by
   intro k w' hw dst g
   simp [execOp, resolve, invoke, builtin, hde', hxe, hw, Result.andThen]
  split at h
  ·rename_i h0
   cases h
   refine zsl hs (v := goInt 0) (fun dst g => hexec (k := 0) ?_ dst g) (.imm _ _ (.val _ rfl))
   have h0' : Nat.min n dl = 0 := h0
   simp only [Builtin.copy_, List.getElem?_toArray, List.getElem?_cons_zero, List.getElem?_cons_succ, Sem.run_bind, run_underlying ht, Result.andThen_ok, Builtin.lenOf, Sem.run_pure, h0', znz hi, zfg _ 0 xb n xc (Nat.zero_mul _)]
   cases db <;> simp [storeCells]
  ·rename_i h0
   split at h
   ·rename_i id off sz' dl' dcap
    split at h
    ·rename_i hszz
     subst hszz
     split at h
     ·rename_i m cs hcs
      cases hst : storeAt s.mem (.optr id off) (cs.map .imm) with
      | none => rw [hst] at h; cases h
      | some m' =>
       rw [hst] at h
       simp only [Option.map_some, Option.some.injEq, Prod.mk.injEq] at h
       obtain ⟨rfl, rfl⟩ := h
       have hmn : min n dl ≤ n := Nat.min_le_left _ _
       have hmd : min n dl ≤ dl := Nat.min_le_right _ _
       rw [hxe] at hxr
       have hsr := zoz hxr hmn h0 hn
       obtain ⟨us, hg⟩ := zgb (P := P) hs.mem hsr hcs
       have hm : m = min n dl := by
        have h1 := hg.len C.w
        simp [Builtin.lenOf] at h1
        exact h1.symm
       subst hm
       have hone : ∀ u ∈ us.toList, u.oneCell' = true := by
        intro u hu
        obtain ⟨j, hj⟩ := List.getElem?_of_mem hu
        have hjs : j < us.size := by simpa using (List.getElem?_eq_some_iff.1 hj).1
        have hjc : j < cs.length := by rw [hg.count, ← hg.size]; exact hjs
        obtain ⟨u', hu', hr⟩ := hg.rep j cs[j] (List.getElem?_eq_getElem hjc)
        have : u' = u := by have h2 := hu'.symm.trans (by simpa using hj); exact Option.some.inj h2
        subst this
        exact hr.one
       have hidr : ARep num C (.optr id off) (.pointer (some ⟨C.σ id, off, none⟩)) := by
        rw [hde'] at hdr
        cases hdr with
        | osl _ _ _ _ _ c ad arr e hid hl hkk ha hw hss => exact .optr _ _ hid
       obtain ⟨b, o, w', hv, hrun, hstep, htr⟩ := zpk (P := P) hs.mem hidr (us := us.toList) (by simp [hg.count, hg.size]) hone (fun j y u hy hu => by
        rw [List.getElem?_map] at hy
        cases hq : cs[j]? with
        | none => simp [hq] at hy
        | some q =>
         simp [hq] at hy
         subst hy
         obtain ⟨u', hu', hr⟩ := hg.rep j q hq
         have : u' = u := by have h2 := hu'.symm.trans (by simpa using hu); exact Option.some.inj h2
         subst this
         exact .imm _ _ hr) hst hs.k
       refine ⟨goInt (min n dl : Nat), { C with w := w' }, fun dst g => .inl (hexec (k := (min n dl)) ?_ dst g), hstep, hs.env.mono htr, .imm _ _ (.val _ rfl), rfl⟩
       have hdb : db = some ⟨b, o, none⟩ := by
        rw [hde'] at hdr
        have hl0 : dl ≠ 0 := by omega
        generalize hq : (Value.slice db dl dc) = q at hdr
        cases hdr with
        | osl _ _ _ _ _ c ad arr e hid hl hkk ha hw hss =>
         simp only [Value.slice.injEq] at hq
         obtain ⟨rfl, rfl, rfl⟩ := hq
         simp only [Value.pointer.injEq, Option.some.injEq] at hv
         rcases ha with ha | ha
         ·rw [ha]; exact congrArg some hv
         ·omega
       have hfc := hg.cells C.w rfl
       have hfc' : (Builtin.firstCells (P.cellsOf e) (Nat.min n dl) (.slice xb n xc)).run P C.w = .ok us C.w := by
        rw [← hfc]; cases xb <;> rfl
       simp only [Builtin.copy_, List.getElem?_toArray, List.getElem?_cons_zero, List.getElem?_cons_succ, Sem.run_bind, run_underlying ht, Result.andThen_ok, Builtin.lenOf, Sem.run_pure, znz hi, ← hsz, hfc', hdb, hrun]
     ·cases h
    ·cases h
   ·cases h
 ·cases h
theorem zrx (hs : SRep num C s a) {t e : TypeId} {x : Operand} {x' : Src} {zs : List Value} (hx : trSrc num x = some x') (ht : P.underlying t = some (.slice e)) (hz : zeroCellsOf P e = some zs) (hk : known P e = true) (hone : zs.all oneCellV = true)
  (h0 : 0 < P.cellsOf e) (hzl : zs.length = P.cellsOf e) {call : Calls'} {r : AV} {s' : St} (h : exOp call s (.clear (P.cellsOf e) zs x') = some (r, s')) :
  Yields num P (.call { callee := .builtin .clear, args := #[x], argTypes := #[t] }) ty pos after a C s r s' := by
 obtain ⟨z, hzr, hzc⟩ := zso hz C.w
 have hzs : z.cells.size = P.cellsOf e := by rw [← hzl, ← hzc]; simp
 have hxr := zpc hs hx
 simp only [exOp] at h
 generalize hxv : s.env.ev x' = xv at h hxr
 split at h
 ·rename_i n hn
  obtain ⟨xb, xc, hxe⟩ := zie hxr hn
  have hexec : ∀ {w' : World}, (Builtin.clear_ #[t] ty #[.slice xb n xc]).run P C.w = .ok (.tuple #[]) w' → ∀ dst g, (execOp a.eval ⟨dst, .call { callee := .builtin .clear, args := #[x], argTypes := #[t] }, ty, pos, after, g⟩).run P C.w = .ok (.value (.tuple #[])) w' := by
   intro w' hw dst g
   simp [execOp, resolve, invoke, builtin, hxe, hw, Result.andThen]
  split at h
  ·rename_i hn0
   cases h
   subst hn0
   refine zsl hs (v := .tuple #[]) (fun dst g => hexec ?_ dst g) (.tup _ _ rfl (fun j x u hx => by simp at hx))
   cases xb <;> simp [Builtin.clear_, run_underlying ht]
  ·rename_i hn0
   split at h
   ·rename_i id off sz' dl' dcap
    split at h
    ·rename_i hszz
     obtain ⟨rfl, _⟩ := hszz
     cases hst : storeAt s.mem (.optr id off) ((copies n zs).map fun z => .imm (.val z)) with
     | none => rw [hst] at h; cases h
     | some m' =>
      rw [hst] at h
      simp only [Option.map_some, Option.some.injEq, Prod.mk.injEq] at h
      obtain ⟨rfl, rfl⟩ := h
      have hidr : ARep num C (.optr id off) (.pointer (some ⟨C.σ id, off, none⟩)) := by
       rw [hxe] at hxr
       cases hxr with
       | osl _ _ _ _ _ c ad arr e hid hl hkk ha hw hss => exact .optr _ _ hid
      obtain ⟨b, o, w', hv, hrun, hstep, htr⟩ := zpk (P := P) hs.mem hidr (us := copies n zs) (by simp) (fun u hu => by
       rw [← zj1]; exact List.all_eq_true.1 (zck hone) u hu) (fun j y u hy hu => by
       rw [List.getElem?_map, hu] at hy
       simp at hy
       subst hy
       refine .imm _ _ (.val _ ?_)
       rw [← zj1]; exact List.all_eq_true.1 (zck hone) u (List.mem_of_getElem? hu)) hst hs.k
      refine ⟨.tuple #[], { C with w := w' }, fun dst g => .inl (hexec ?_ dst g), hstep, hs.env.mono htr, .tup _ _ rfl (fun j x u hx => by simp at hx), rfl⟩
      have hdb : xb = some ⟨b, o, none⟩ := by
       rw [hxe] at hxr
       generalize hq : (Value.slice xb n xc) = q at hxr
       cases hxr with
       | osl _ _ _ _ _ c ad arr e hid hl hkk ha hw hss =>
        simp only [Value.slice.injEq] at hq
        obtain ⟨rfl, rfl, rfl⟩ := hq
        simp only [Value.pointer.injEq, Option.some.injEq] at hv
        rcases ha with ha | ha
        ·rw [ha]; exact congrArg some hv
        ·omega
      subst hdb
      obtain ⟨n1, rfl⟩ : ∃ n1, n = n1 + 1 := ⟨n - 1, by omega⟩
      have hcz : (Builtin.zeroCells z.cells (n1 + 1)).toList = copies (n1 + 1) zs := by
       rw [← hzc, ← zl1 z.cells (n1 + 1) (P.cellsOf e) hzs h0]; simp [Builtin.zeroCells, hzs]
      simp [Builtin.clear_, run_underlying ht, hzr, hcz, hrun, Result.andThen]
    ·cases h
   ·cases h
 ·cases h
end
end Go.EX

