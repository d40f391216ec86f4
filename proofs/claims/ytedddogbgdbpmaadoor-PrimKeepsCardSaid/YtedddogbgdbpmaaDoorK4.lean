import Derived.Test.YtedddogbgdbpmaaDoorK3
import Derived.Laws.Strings
import GoSem.Instr.MapUpdate
import Derived.MapKept
import Derived.LaidEqlPtr
import Derived.Test.YtedddogbgdbpmaaDoorK2
set_option linter.unusedVariables false
set_option linter.unusedSimpArgs false
namespace Go.EX
section
variable {num : Names} {P : Program}
variable {ty : TypeId} {pos : String} {after : Array Edge} {a : Act} {C : Cx} {s : St}
def Cx.join (C D : Cx) (J : Nat → Prop) (k : Nat) : Cx := { σ := fun i => if i < C.n then C.σ i else D.σ (i - C.n), I := J, n := C.n + k, w := D.w }
theorem zh8 {m mc : Mem} (hm : MRep num C m) {C0 D : Cx} (hw0 : C0.w = C.w) (hst : Step num 0 C0 [] D mc) {J : Nat → Prop} (hJ1 : ∀ b, C.I b → J b) (hJ2 : ∀ b, J b → C.I b ∨ C.w.heap.size ≤ b) (hJ3 : ∀ b, J b → b < D.w.heap.size) (hJ4 : ∀ b, Own D mc b → ¬ J b)
  (hobj : ∀ (i : Nat) o, mc[i]? = some o → ORep num (C.join D J mc.length) (C.n + i) (o.ren fun i => some (m.length + i))) {k : Nat} (hk : k ≤ m.length) :
  Step num k C m (C.join D J mc.length) (m ++ mc.map (AObj.ren fun i => some (m.length + i))) ∧ Tr some C (C.join D J mc.length) := by
 have hlen := hm.len
 have hsize : C.w.heap.size ≤ D.w.heap.size := by have := hst.size; rwa [hw0] at this
 have hkeep : ∀ b, b < C.w.heap.size → D.w.heap[b]? = C.w.heap[b]? := by
  intro b hb
  have := hst.keep b (by rw [hw0]; exact hb) fun ⟨i, o, h, _⟩ => by simp at h
  rwa [hw0] at this
 have hownD : ∀ b, Own D mc b → C.w.heap.size ≤ b := by
  intro b hb
  rcases hst.own b hb with h | ⟨i, o, h, _⟩
  ·rwa [hw0] at h
  ·simp at h
 have hσ1 : ∀ i, i < m.length → (C.join D J mc.length).σ i = C.σ i := fun i hi => by simp only [Cx.join]; rw [if_pos (by omega)]
 have hσ2 : ∀ i, (C.join D J mc.length).σ (m.length + i) = D.σ i := fun i => by simp only [Cx.join]; rw [if_neg (by omega)]; congr 1; omega
 have htr : Tr some C (C.join D J mc.length) := by
  refine ⟨hJ1, fun b hb => hkeep b (hm.bd b hb), fun i j hi hj => ?_⟩
  cases hj
  exact ⟨by simp only [Cx.join]; omega, hσ1 i (by omega), fun _ _ h => h.same (hkeep _ h.lt)⟩
 have split : ∀ (i : Nat) p, (m ++ mc.map (AObj.ren fun i => some (m.length + i)))[i]? = some p → (i < m.length ∧ m[i]? = some p) ∨ ∃ j q, i = m.length + j ∧ mc[j]? = some q ∧ p = q.ren fun i => some (m.length + i) := by
  intro i p hp
  rcases Nat.lt_or_ge i m.length with h | h
  ·rw [List.getElem?_append_left h] at hp; exact .inl ⟨h, hp⟩
  ·rw [List.getElem?_append_right h] at hp
   obtain ⟨q, hq, rfl⟩ := zj4 _ _ _ _ hp
   exact .inr ⟨i - m.length, q, by omega, hq, rfl⟩
 have hownE : ∀ b, Own (C.join D J mc.length) (m ++ mc.map (AObj.ren fun i => some (m.length + i))) b → Own C m b ∨ Own D mc b := by
  rintro b ⟨i, p, hp, hl, hb⟩
  rcases split i p hp with ⟨hi, hp'⟩ | ⟨j, q, rfl, hq, rfl⟩
  ·exact .inl ⟨i, p, hp', hl, by rw [← hσ1 i hi]; exact hb⟩
  ·rw [zpq] at hl
   exact .inr ⟨j, q, hq, hl, by rw [← hσ2 j]; exact hb⟩
 refine ⟨⟨⟨by simp [Cx.join, hlen], fun i p hp => ?_, fun i j p q hp hq hlp hlq he => ?_, fun b hb hJ => ?_, hJ3, num.up hm.glo htr.imm htr.keep⟩, by rw [← hw0]; exact hst.os, by rw [← hw0]; exact hst.tape, by rw [← hw0]; exact hst.out, hsize, fun b hb _ => hkeep b hb,
  fun _ _ _ h => h.same (hkeep _ h.lt), hJ1, fun b hb => ?_, fun b hb => ?_, fun i hi p hp hmv => ?_, by simp; omega⟩, htr⟩
 ·rcases split i p hp with ⟨hi, hp'⟩ | ⟨j, q, rfl, hq, rfl⟩
  ·have hob := hm.obj i p hp'
   exact zmw htr (hσ1 i hi) (fun x h => by show D.w.heap[_]? = _; rw [hkeep _ (Array.getElem?_eq_some_iff.1 h).1]; exact h) hob
  ·have := hobj j q hq
   rwa [← hlen] at this
 ·rcases split i p hp with ⟨hi, hp'⟩ | ⟨i', p', rfl, hp', rfl⟩ <;> rcases split j q hq with ⟨hj, hq'⟩ | ⟨j', q', rfl, hq', rfl⟩
  ·rw [hσ1 i hi, hσ1 j hj] at he; exact hm.inj i j p q hp' hq' hlp hlq he
  ·rw [zpq] at hlq
   rw [hσ1 i hi, hσ2] at he
   have h1 := MRep.lt num hm ⟨i, p, hp', hlp, rfl⟩
   have h2 := hownD _ ⟨j', q', hq', hlq, rfl⟩
   omega
  ·rw [zpq] at hlp
   rw [hσ1 j hj, hσ2] at he
   have h1 := MRep.lt num hm ⟨j, q, hq', hlq, rfl⟩
   have h2 := hownD _ ⟨i', p', hp', hlp, rfl⟩
   omega
  ·rw [zpq] at hlp hlq
   rw [hσ2, hσ2] at he
   rw [zub]
   rcases hst.rep.inj i' j' p' q' hp' hq' hlp hlq he with h | h
   ·exact .inl (by rw [h])
   ·exact .inr h
 ·rcases hownE b hb with h | h
  ·rcases hJ2 b hJ with h' | h'
   ·exact hm.imm b h h'
   ·have := MRep.lt num hm h; omega
  ·exact hJ4 b h hJ
 ·rcases hJ2 b hb with h | h
  ·exact .inl h
  ·exact .inr (.inl h)
 ·rcases hownE b hb with h | h
  ·exact .inr h
  ·exact .inl (hownD b h)
 ·rcases split i p hp with ⟨hi', hp'⟩ | ⟨j, q, rfl, _, _⟩
  ·exact ⟨p, hp', hmv, hσ1 i hi'⟩
  ·omega
theorem zm3 {D E : Cx} {f : Nat → Option Nat} (h : ∀ id j, id < D.n → f id = some j → j < E.n ∧ E.σ j = D.σ id ∧ ∀ n e, RowAt D.w (D.σ id) n e → RowAt (E.w) (D.σ id) n e)
  {x : AV} (ho : x.own1 = true) {v : Value} (hx : ARep num D x v) : ARep num E (x.ren f) v := by
 unfold AV.own1 at ho
 split at ho
 ·exact znu rfl hx E
 ·rename_i id off sz len cap
  cases hx with
  | osl _ _ _ _ _ c a arr e hid hl hk ha hw hs =>
   simp only [AV.ren]
   cases hf : f id with
   | none => exact .junk _
   | some j =>
    obtain ⟨h1, h2, h3⟩ := h id j hid hf
    have h4 := h3 arr e hw
    dsimp only
    rw [← h2] at h4 ⊢
    exact .osl j off sz len cap c a arr e h1 hl hk ha h4 hs
 ·rename_i id off
  cases hx with
  | optr _ _ hid =>
   simp only [AV.ren]
   cases hf : f id with
   | none => exact .junk _
   | some j =>
    obtain ⟨h1, h2, _⟩ := h id j hid hf
    dsimp only
    rw [← h2]
    exact .optr j off h1
 ·cases ho
theorem zm4 {D E : Cx} {f : Nat → Option Nat} (h : ∀ id j, id < D.n → f id = some j → j < E.n ∧ E.σ j = D.σ id ∧ ∀ n e, RowAt D.w (D.σ id) n e → RowAt (E.w) (D.σ id) n e)
  {x : AV} (ho : x.own2 = true) {v : Value} (hx : ARep num D x v) : ARep num E (x.ren f) v := by
 unfold AV.own2 at ho
 split at ho
 ·rename_i cells
  cases hx with
  | agg _ vs hl h1 hr =>
   simp only [AV.ren]
   refine .agg _ vs (by rw [zpk]; exact hl) h1 fun j x u hx hu => ?_
   rw [zpi] at hx
   cases hq : cells[j]? with
   | none => simp [hq] at hx
   | some y => simp [hq] at hx; subst hx; exact zm3 h (List.all_eq_true.1 ho y (List.mem_of_getElem? hq)) (hr j y u hq hu)
 ·exact zm3 h ho hx
theorem zm9 {D E : Cx} {f : Nat → Option Nat} (h : ∀ id j, id < D.n → f id = some j → j < E.n ∧ E.σ j = D.σ id ∧ ∀ n e, RowAt D.w (D.σ id) n e → RowAt (E.w) (D.σ id) n e)
  {x : AV} (ho : x.own = true) {v : Value} (hx : ARep num D x v) : ARep num E (x.ren f) v := by
 unfold AV.own at ho
 split at ho
 ·rename_i xs
  cases hx with
  | tup _ vs hl hr =>
   simp only [AV.ren]
   refine .tup _ vs (by rw [zpk]; exact hl) fun j x u hx hu => ?_
   rw [zpi] at hx
   cases hq : xs[j]? with
   | none => simp [hq] at hx
   | some y => simp [hq] at hx; subst hx; exact zm4 h (List.all_eq_true.1 ho y (List.mem_of_getElem? hq)) (hr j y u hq hu)
 ·exact zm4 h ho hx
theorem y_own {call : Calls'} (hcall : CallOK num P call) (hs : SRep num C s a) {f : FuncId} {args : Array Operand} {ats : Array TypeId} {ys : List Src} (hy : args.toList.mapM (trSrc num) = some ys) {r : AV} {s' : St} (h : exOwn call s (num f) (ys.map s.env.ev) = some (r, s')) :
  CallsTo num P (.call { callee := .value (.func f), args := args, argTypes := ats }) ty pos after a C s r s' := by
 have hm := hs.mem
 have hlen := hm.len
 obtain ⟨hl, hr⟩ := za0 hs args.toList ys hy
 unfold exOwn at h
 cases hf : (ys.map s.env.ev).mapM (frz s.mem) with
 | none => simp [hf] at h
 | some bs =>
  simp only [hf] at h
  cases hc : call (num f) bs [] with
  | none => simp [hc] at h
  | some rm =>
   obtain ⟨rv, mc⟩ := rm
   simp only [hc] at h
   split at h
   ·rename_i hcond
    simp only [Option.some.injEq, Prod.mk.injEq] at h
    obtain ⟨rfl, rfl⟩ := h
    by_cases himm : (ys.map s.env.ev).all AV.isImm = true
    ·let C0 : Cx := { σ := C.σ, I := C.I, n := 0, w := C.w }
     have hC0 : MRep num C0 [] := ⟨rfl, fun i o h => by simp at h, fun i j o p h => by simp at h, fun b ⟨i, o, h, _⟩ => by simp at h, hm.bd, hm.glo⟩
     obtain ⟨h1, h2⟩ := zj1 _ _ _ hf
     have h3 : ∀ (j : Nat) (x : AV) (u : Value), bs[j]? = some x → (args.toList.map a.eval).toArray[j]? = some u → ARep num C0 x u := by
      intro j x u hx hu
      obtain ⟨q, hq, hfq⟩ := h2 j x hx
      have hqi := List.all_eq_true.1 himm q (List.mem_of_getElem? hq)
      have := zgl hqi hfq
      subst this
      exact zhg hqi (hr j x u hq hu) C0 (fun _ h => h) rfl
     obtain ⟨hcb, hcs⟩ := hcall.fn f bs [] rv mc C0 _ hc hC0 (by rw [h1]; exact hl) h3
     refine ⟨f, _, fun dst g => zq1 hcb args ats C.w dst g, hcs.mono ?_⟩
     rintro e w' ⟨v, D, rfl, rfl, hst, hrv⟩
     have hDn := hst.rep.len
     have tup : Tr (fun i => some (s.mem.length + i)) D (C.join D D.I mc.length) := by
      refine ⟨fun _ h => h, fun _ _ => rfl, fun i j hi hj => ?_⟩
      cases hj
      exact ⟨by simp only [Cx.join]; omega, by simp only [Cx.join]; rw [if_neg (by omega)]; congr 1; omega, fun _ _ h => h⟩
     obtain ⟨hj, ht⟩ := zh8 (k := s.k) hm (C0 := C0) rfl hst (J := D.I) hst.imm (fun b hb => by
       rcases hst.imm' b hb with h | h | ⟨i, o, h, _⟩
       ·exact .inl h
       ·exact .inr h
       ·simp at h) hst.rep.bd hst.rep.imm (fun i o ho => zmx tup (by simp only [Cx.join]; rw [if_neg (by omega)]; congr 1; omega) (fun _ h => h) (hst.rep.obj i o ho)) hs.k
     exact ⟨v, C.join D D.I mc.length, rfl, rfl, hj, hs.env.mono ht, hrv.tr tup, rfl⟩
    ·have hown : rv.own = true ∧ mc.all AObj.own = true := by simpa [himm] using hcond
     have hvr := zus hm
     obtain ⟨h1, h2⟩ := zay hm hf hl hr (C.view s.mem num) (fun _ h => h) rfl
     obtain ⟨hcb, hcs⟩ := hcall.fn f bs [] rv mc _ _ hc hvr h1 h2
     refine ⟨f, _, fun dst g => zq1 hcb args ats C.w dst g, hcs.mono ?_⟩
     rintro e w' ⟨v, D, rfl, rfl, hst, hrv⟩
     have hDn := hst.rep.len
     have hids : ∀ id j, id < D.n → (fun i => some (s.mem.length + i) : Nat → Option Nat) id = some j → j < (C.join D C.I mc.length).n ∧ (C.join D C.I mc.length).σ j = D.σ id ∧ ∀ n e, RowAt D.w (D.σ id) n e → RowAt ((C.join D C.I mc.length).w) (D.σ id) n e := by
      intro i j hi hj
      cases hj
      exact ⟨by simp only [Cx.join]; omega, by simp only [Cx.join]; rw [if_neg (by omega)]; congr 1; omega, fun _ _ h => h⟩
     obtain ⟨hj, ht⟩ := zh8 (k := s.k) hm (C0 := C.view s.mem num) rfl hst (J := C.I) (fun _ h => h) (fun _ h => .inl h) (fun b hb => Nat.lt_of_lt_of_le (hm.bd b hb) hst.size) (fun b hb hI => hst.rep.imm b hb (hst.imm b (.inl hI))) (fun i o ho => by
       have hoo := List.all_eq_true.1 hown.2 o (List.mem_of_getElem? ho)
       have hob := hst.rep.obj i o ho
       have hσ : (C.join D C.I mc.length).σ (C.n + i) = D.σ i := by simp only [Cx.join]; rw [if_neg (by omega)]; congr 1; omega
       cases o with
       | flat cs mv =>
        obtain ⟨arr, e, h1, h2⟩ := hob
        refine ⟨arr, e, by rw [hσ]; exact h1, fun j x hx => ?_⟩
        obtain ⟨u, hu, hr'⟩ := h2 j x hx
        have hp := List.all_eq_true.1 hoo x (List.mem_of_getElem? hx)
        cases x with
        | val z => cases hr' with | val _ h => exact ⟨_, hu, .val _ h⟩
        | slice => cases hp
        | ptr => cases hp
       | rich cs =>
        obtain ⟨arr, e, h1, h2⟩ := hob
        refine ⟨arr, e, by rw [hσ]; exact h1, fun j x hx => ?_⟩
        rw [zpi] at hx
        cases hq : cs[j]? with
        | none => simp [hq] at hx
        | some y =>
         simp [hq] at hx
         subst hx
         obtain ⟨u, hu, h1c, hr'⟩ := h2 j y hq
         exact ⟨u, hu, h1c, zm3 hids (List.all_eq_true.1 hoo y (List.mem_of_getElem? hq)) hr'⟩
       | map es => exact absurd hoo (by simp [AObj.own])
       | dead => trivial
       | fix => exact absurd hoo (by simp [AObj.own])
       | loop => exact absurd hoo (by simp [AObj.own])
       | text => exact absurd hoo (by simp [AObj.own])
       | iter => exact absurd hoo (by simp [AObj.own])) hs.k
     exact ⟨v, C.join D C.I mc.length, rfl, rfl, hj, hs.env.mono ht, zm9 hids hown.1 hrv, rfl⟩
   ·cases h
theorem zwd {call : Calls'} (hcall : CallOK num P call) (hs : SRep num C s a) {f : FuncId} {args : Array Operand} {ats : Array TypeId} {ys : List Src} (hy : args.toList.mapM (trSrc num) = some ys) {r : AV} {s' : St} (h : exShare call s (num f) (ys.map s.env.ev) = some (r, s')) :
  CallsTo num P (.call { callee := .value (.func f), args := args, argTypes := ats }) ty pos after a C s r s' := by
 obtain ⟨hl, hr⟩ := za0 hs args.toList ys hy
 obtain ⟨hcb, hcs⟩ := zr7 hcall hs hl hr h
 exact ⟨f, _, fun dst g => zq1 hcb args ats C.w dst g, hcs⟩
theorem zvz {call : Calls'} (hcall : CallOK num P call) (hs : SRep num C s a) {fo : Operand} {f' : Src} {args : Array Operand} {ats : Array TypeId} {ys : List Src} (hfo : trSrc num fo = some f') (hy : args.toList.mapM (trSrc num) = some ys) {fn : Nat} {caps : List AV} (hf : s.env.ev f' = .clo fn caps) {r : AV} {s' : St}
  (h : exShare call s fn (ys.map s.env.ev ++ caps) = some (r, s')) : CallsTo num P (.call { callee := .value fo, args := args, argTypes := ats }) ty pos after a C s r s' := by
 obtain ⟨hl, hr⟩ := za0 hs args.toList ys hy
 have h1 := zsp hs hfo
 rw [hf] at h1
 generalize hu : a.eval fo = u at h1
 cases h1 with
 | clo g _ vs hcl hcr =>
  have hl2 : (ys.map s.env.ev ++ caps).length = ((args.toList.map a.eval).toArray ++ vs).size := by rw [List.length_append, Array.size_append, hl, hcl]
  have hr2 : ∀ (j : Nat) (x : AV) (u : Value), (ys.map s.env.ev ++ caps)[j]? = some x → ((args.toList.map a.eval).toArray ++ vs)[j]? = some u → ARep num C x u := by
   intro j x u hx hu'
   rcases Nat.lt_or_ge j (ys.map s.env.ev).length with hj | hj
   ·rw [List.getElem?_append_left hj] at hx
    rw [Array.getElem?_append_left (by rw [← hl]; exact hj)] at hu'
    exact hr j x u hx hu'
   ·rw [List.getElem?_append_right hj] at hx
    rw [Array.getElem?_append_right (by rw [← hl]; exact hj), ← hl] at hu'
    exact hcr _ x u hx hu'
  obtain ⟨hcb, hcs⟩ := zr7 hcall hs hl2 hr2 h
  refine ⟨g, _, fun dst gd => ?_, hcs⟩
  obtain ⟨fn', e1, e2, e3⟩ := hcb
  obtain ⟨body, hb⟩ := Option.isSome_iff_exists.1 e3
  have harr : args.map a.eval = (args.toList.map a.eval).toArray := by apply Array.ext'; simp
  simp [execOp, resolve, Deferred.ofValue, hu, invoke, callFunc, e1, e2, hb, harr]
end
end Go.EX


namespace Go.EX
def sameV : List Nat → List Value → List Value → Option Bool
 | [], [], [] => some true
 | 0 :: ks, .int k a :: xs, .int j b :: ys => if k = j then (sameV ks xs ys).map fun r => a == b && r else none
 | 1 :: ks, .bool a :: xs, .bool b :: ys => (sameV ks xs ys).map fun r => a == b && r
 | 2 :: ks, .string a :: xs, .string b :: ys => (sameV ks xs ys).map fun r => a == b && r
 | _, _, _ => none
theorem zrp {xs ys : List Value} {r : Bool} (h : sameV [] xs ys = some r) : r = true := by
 cases xs <;> cases ys <;> simp [sameV] at h; exact h
theorem zrq {xs ys : List Value} {r : Bool} (h : sameV [] xs ys = some r) : xs = [] ∧ ys = [] := by
 cases xs <;> cases ys <;> simp [sameV] at h; exact ⟨rfl, rfl⟩
theorem zro : ∀ (ks : List Nat) (xs ys : List Value) (b : Bool), sameV ks xs ys = some b → xs.length = ks.length ∧ ys.length = ks.length
 | ks, xs, ys, b, h => by
  induction ks generalizing xs ys b with
  | nil => unfold sameV at h; split at h <;> simp_all
  | cons k ks ih =>
   unfold sameV at h
   split at h
   ·simp_all
   ·rename_i heq; cases heq
    split at h
    ·simp only [Option.map_eq_some_iff] at h; obtain ⟨r, hr, _⟩ := h; have := ih _ _ _ hr; simp [this]
    ·cases h
   ·rename_i heq; cases heq; simp only [Option.map_eq_some_iff] at h; obtain ⟨r, hr, _⟩ := h; have := ih _ _ _ hr; simp [this]
   ·rename_i heq; cases heq; simp only [Option.map_eq_some_iff] at h; obtain ⟨r, hr, _⟩ := h; have := ih _ _ _ hr; simp [this]
   ·cases h
theorem zrk : ∀ (ks : List Nat) (xs ys : List AV) (b : Bool), sameCells ks xs ys = some b → ∃ cs ds : List Value, xs = cs.map (fun v => AV.imm (.val v)) ∧ ys = ds.map (fun v => AV.imm (.val v)) ∧ sameV ks cs ds = some b
 | ks, xs, ys, b, h => by
  induction ks generalizing xs ys b with
  | nil =>
   cases xs with
   | nil => cases ys with
    | nil => simp [sameCells] at h; exact ⟨[], [], rfl, rfl, by simp [sameV, h]⟩
    | cons => simp [sameCells] at h
   | cons => simp [sameCells] at h
  | cons k ks ih =>
   unfold sameCells at h
   split at h
   ·simp_all
   ·rename_i heq; cases heq
    split at h
    ·rename_i hk
     simp only [Option.map_eq_some_iff] at h; obtain ⟨r, hr, hb⟩ := h
     obtain ⟨cs, ds, rfl, rfl, h3⟩ := ih _ _ _ hr
     exact ⟨_ :: cs, _ :: ds, rfl, rfl, by simp [sameV, hk, h3, hb]⟩
    ·cases h
   ·rename_i heq; cases heq; simp only [Option.map_eq_some_iff] at h; obtain ⟨r, hr, hb⟩ := h
    obtain ⟨cs, ds, rfl, rfl, h3⟩ := ih _ _ _ hr
    exact ⟨_ :: cs, _ :: ds, rfl, rfl, by simp [sameV, h3, hb]⟩
   ·rename_i heq; cases heq; simp only [Option.map_eq_some_iff] at h; obtain ⟨r, hr, hb⟩ := h
    obtain ⟨cs, ds, rfl, rfl, h3⟩ := ih _ _ _ hr
    refine ⟨_ :: cs, _ :: ds, rfl, rfl, ?_⟩
    simp only [sameV, h3, Option.map_some, Option.some.injEq]
    rw [← hb, beq_toListBytes]
   ·cases h
theorem zrn : ∀ (k1 k2 : List Nat) (xs ys : List Value) (b : Bool), sameV (k1 ++ k2) xs ys = some b → ∃ b1 b2, sameV k1 (xs.take k1.length) (ys.take k1.length) = some b1 ∧ sameV k2 (xs.drop k1.length) (ys.drop k1.length) = some b2 ∧ b = (b1 && b2)
 | k1, k2, xs, ys, b, h => by
  induction k1 generalizing xs ys b with
  | nil => exact ⟨true, b, by simp [sameV], by simpa using h, by simp⟩
  | cons k ks ih =>
   rw [List.cons_append] at h
   unfold sameV at h
   split at h
   ·simp_all
   ·rename_i heq; cases heq
    split at h
    ·rename_i hk
     simp only [Option.map_eq_some_iff] at h; obtain ⟨r, hr, hb⟩ := h
     obtain ⟨b1, b2, h1, h2, h3⟩ := ih _ _ _ hr
     refine ⟨_, b2, by simp only [List.length_cons, List.take_succ_cons, sameV, hk, if_true, h1, Option.map_some]; rfl, by simpa using h2, by rw [← hb, h3, Bool.and_assoc]⟩
    ·cases h
   ·rename_i heq; cases heq; simp only [Option.map_eq_some_iff] at h; obtain ⟨r, hr, hb⟩ := h
    obtain ⟨b1, b2, h1, h2, h3⟩ := ih _ _ _ hr
    refine ⟨_, b2, by simp only [List.length_cons, List.take_succ_cons, sameV, h1, Option.map_some]; rfl, by simpa using h2, by rw [← hb, h3, Bool.and_assoc]⟩
   ·rename_i heq; cases heq; simp only [Option.map_eq_some_iff] at h; obtain ⟨r, hr, hb⟩ := h
    obtain ⟨b1, b2, h1, h2, h3⟩ := ih _ _ _ hr
    refine ⟨_, b2, by simp only [List.length_cons, List.take_succ_cons, sameV, h1, Option.map_some]; rfl, by simpa using h2, by rw [← hb, h3, Bool.and_assoc]⟩
   ·cases h
theorem zbm {a b : ByteArray} (h : (a.toList == b.toList) = true) : b = a := by
 have := beq_iff_eq.1 h
 rw [ByteArray.toList_eq, ByteArray.toList_eq] at this
 cases a; cases b
 simp at this
 exact congrArg ByteArray.mk this.symm
theorem zrr : ∀ (ks : List Nat) (xs ys : List Value), sameV ks xs ys = some true → ys = xs ∧ ((xs.zip xs).all fun p => Instr.sameBits 9999 p.1 p.2) = true
 | ks, xs, ys, h => by
  induction ks generalizing xs ys with
  | nil => obtain ⟨rfl, rfl⟩ := zrq h; exact ⟨rfl, rfl⟩
  | cons k ks ih =>
   unfold sameV at h
   split at h
   ·simp_all
   ·rename_i heq; cases heq
    split at h
    ·rename_i hk; subst hk
     simp only [Option.map_eq_some_iff, Bool.and_eq_true, beq_iff_eq] at h
     obtain ⟨r, hr, rfl, rfl⟩ := h
     obtain ⟨rfl, h2⟩ := ih _ _ hr
     exact ⟨rfl, by simp only [List.zip_cons_cons, List.all_cons, h2, Bool.and_true]; simp [Instr.sameBits]⟩
    ·cases h
   ·rename_i heq; cases heq
    simp only [Option.map_eq_some_iff, Bool.and_eq_true, beq_iff_eq] at h
    obtain ⟨r, hr, rfl, rfl⟩ := h
    obtain ⟨rfl, h2⟩ := ih _ _ hr
    exact ⟨rfl, by simp only [List.zip_cons_cons, List.all_cons, h2, Bool.and_true]; simp [Instr.sameBits]⟩
   ·rename_i heq; cases heq
    simp only [Option.map_eq_some_iff, Bool.and_eq_true] at h
    obtain ⟨r, hr, hb, rfl⟩ := h
    obtain ⟨rfl, h2⟩ := ih _ _ hr
    rw [beq_toListBytes] at hb
    have e := zbm hb
    subst e
    refine ⟨rfl, by simp only [List.zip_cons_cons, List.all_cons, h2, Bool.and_true]; simp only [Instr.sameBits]; rw [beq_toListBytes]; simp⟩
   ·cases h
section
variable {P : Program}
def mkV (P : Program) (t : TypeId) (cs : List Value) : Value :=
 match P.underlying t with
 | some (.struct _) => .agg cs.toArray
 | _ => cs.headD undef
theorem zra {n : Nat} {t : TypeId} {l : List Nat} (hl : leaves P n t = some l) (hk : known P t = true) (hsz : P.cellsOf t = l.length) {us : Array Value} {k : Nat} (hlen : k + l.length ≤ us.size) (w : World) :
  (part t us k).run P w = .ok (mkV P t ((us.toList.drop k).take l.length)) w := by
 obtain ⟨i, d, hi, hd, hs, _⟩ := zim hk
 cases n with
 | zero => cases hl
 | succ n =>
  have one : ∀ (hag : (isAgg t).run P w = .ok false w) (hl1 : l.length = 1) (hm : ∀ c : List Value, mkV P t c = c.headD undef), (part t us k).run P w = .ok (mkV P t ((us.toList.drop k).take l.length)) w := by
   intro hag hl1 hm
   have hk' : k < us.size := by omega
   rw [hl1, hm]
   have e : (us.toList.drop k).take 1 = [us[k]] := by
    rw [List.drop_eq_getElem_cons (by simpa using hk')]; simp
   rw [e]
   simp [part, hag, hk']
  unfold leaves at hl
  split at hl
  ·rename_i h; cases hl
   exact one (by simp [isAgg, run_underlying h]) rfl (fun c => by simp [mkV, h])
  ·rename_i h; cases hl
   exact one (by simp [isAgg, run_underlying h]) rfl (fun c => by simp [mkV, h])
  ·rename_i h; cases hl
   exact one (by simp [isAgg, run_underlying h]) rfl (fun c => by simp [mkV, h])
  ·rename_i fs h
   have hag : (isAgg t).run P w = .ok true w := by simp [isAgg, run_underlying h]
   have hm : mkV P t ((us.toList.drop k).take l.length) = .agg ((us.toList.drop k).take l.length).toArray := by simp [mkV, h]
   rw [hm]
   have e : us.extract k (k + l.length) = ((us.toList.drop k).take l.length).toArray := by
    apply Array.toList_inj.1
    rw [Array.toList_extract]
    simp [List.extract]
   simp [part, hag, zrd hi, ← hs, hsz, e]
  ·cases hl
theorem zes (w : World) : ∀ (n : Nat) (t : TypeId) (ks : List Nat), leaves P n t = some ks → ∀ (d : Nat) (cs ds : List Value) (b : Bool), sameV ks cs ds = some b → (Op.equalIn (n + d) t (mkV P t cs) (mkV P t ds)).run P w = .ok b w := by
 intro n
 induction n with
 | zero => intro t ks h; cases h
 | succ n ih =>
  intro t ks h d cs ds b hb
  rw [show n + 1 + d = (n + d) + 1 by omega]
  unfold leaves at h
  split at h
  ·rename_i kk hk; cases h
   unfold sameV at hb
   split at hb <;> try (cases hb; done)
   ·simp_all
   ·rename_i heq; cases heq
    split at hb
    ·rename_i hkk; subst hkk
     simp only [Option.map_eq_some_iff] at hb
     obtain ⟨r, hr, rfl⟩ := hb
     obtain rfl : r = true := zrp hr
     obtain ⟨rfl, rfl⟩ := zrq hr
     simp only [mkV, hk, List.headD_cons, Bool.and_true]
     exact run_equalIn_int w (n + d) t _ kk _ _ hk
    ·cases hb
   ·rename_i heq; cases heq
   ·rename_i heq; cases heq
  ·rename_i hk; cases h
   unfold sameV at hb
   split at hb <;> try (cases hb; done)
   ·simp_all
   ·rename_i heq; cases heq
   ·rename_i heq; cases heq
    simp only [Option.map_eq_some_iff] at hb
    obtain ⟨r, hr, rfl⟩ := hb
    obtain rfl : r = true := zrp hr
    obtain ⟨rfl, rfl⟩ := zrq hr
    simp only [mkV, hk, List.headD_cons, Bool.and_true]
    exact Go.run_equalIn_bool w (n + d) t _ _ hk
   ·rename_i heq; cases heq
  ·rename_i hk; cases h
   unfold sameV at hb
   split at hb <;> try (cases hb; done)
   ·simp_all
   ·rename_i heq; cases heq
   ·rename_i heq; cases heq
   ·rename_i heq; cases heq
    simp only [Option.map_eq_some_iff] at hb
    obtain ⟨r, hr, rfl⟩ := hb
    obtain rfl : r = true := zrp hr
    obtain ⟨rfl, rfl⟩ := zrq hr
    simp only [mkV, hk, List.headD_cons, Bool.and_true]
    rw [run_equalIn_string w (n + d) t _ _ hk, ← beq_toListBytes]
  ·rename_i fs hk
   split at h
   ·cases h
   rename_i hst
   have hst' : P.stoodInHeld t = false := by simpa using hst
   have hfo : P.fieldsOf t = fs := by simp [Program.fieldsOf, hk]
   simp only [mkV, hk]
   rw [run_equalIn_struct w (n + d) t _ _ (by rw [hfo]; exact hk) hst', hfo]
   have hl := zro _ _ _ _ hb
   have key : ∀ (fs : List Field) (k : Nat) (ks : List Nat) (b : Bool), leavesF P (leaves P n) k fs = some ks → k + ks.length ≤ cs.length → k + ks.length ≤ ds.length → sameV ks (cs.drop k) (ds.drop k) = some b → (Op.eqFields (n + d) cs.toArray ds.toArray fs).run P w = .ok b w := by
    intro fs
    induction fs with
    | nil =>
     intro k ks b h _ _ hb
     simp only [leavesF, Option.some.injEq] at h
     subst h
     obtain rfl : b = true := zrp hb
     rfl
    | cons f fs ihf =>
     intro k ks b h hc1 hc2 hb
     unfold leavesF at h
     split at h
     ·rename_i hcond
      simp only [Bool.and_eq_true, beq_iff_eq, bne_iff_ne] at hcond
      obtain ⟨⟨ho, hn⟩, hkn⟩ := hcond
      split at h
      ·rename_i l hl
       split at h
       ·rename_i hsz
        simp only [Option.map_eq_some_iff] at h
        obtain ⟨ks', hks', rfl⟩ := h
        obtain ⟨b1, b2, g1, g2, rfl⟩ := zrn _ _ _ _ _ hb
        rw [List.length_append] at hc1 hc2
        have hp1 := zra hl hkn hsz (us := cs.toArray) (k := k) (by simpa using (by omega : k + l.length ≤ cs.length)) w
        have hp2 := zra hl hkn hsz (us := ds.toArray) (k := k) (by simpa using (by omega : k + l.length ≤ ds.length)) w
        have he := ih f.type l hl d _ _ b1 g1
        rw [List.drop_drop, List.drop_drop] at g2
        have hrest := ihf (k + l.length) ks' b2 hks' (by omega) (by omega) g2
        simp only [Op.eqFields]
        rw [if_pos hn]
        simp only [ho, Sem.run_bind, hp1, hp2, Result.andThen_ok, he]
        cases b1
        ·simp
        ·simp [hrest]
       ·cases h
      ·cases h
     ·cases h
   exact key fs.toList 0 ks b h (by omega) (by omega) (by simpa using hb)
  ·cases h
theorem zb6 (w : World) (e : Bool) : ∀ (n : Nat) (t : TypeId) (ks : List Nat), leaves P n t = some ks → ∀ (d : Nat) (cs : List Value), cs.length = ks.length → (Instr.checkKey e (n + d) t (mkV P t cs)).run P w = .ok () w := by
 intro n
 induction n with
 | zero => intro t ks h; cases h
 | succ n ih =>
  intro t ks h d cs hl
  rw [show n + 1 + d = (n + d) + 1 by omega]
  unfold leaves at h
  split at h
  ·rename_i kk hk
   simp only [Instr.checkKey, Sem.run_bind, run_underlying hk, Result.andThen_ok, Sem.run_pure]
  ·rename_i hk
   simp only [Instr.checkKey, Sem.run_bind, run_underlying hk, Result.andThen_ok, Sem.run_pure]
  ·rename_i hk
   simp only [Instr.checkKey, Sem.run_bind, run_underlying hk, Result.andThen_ok, Sem.run_pure]
  ·rename_i fs hk
   split at h
   ·cases h
   simp only [mkV, hk, Instr.checkKey, Sem.run_bind, run_underlying hk, Result.andThen_ok]
   rw [← Array.forIn_toList]
   have key : ∀ (fs : List Field) (k : Nat) (ks : List Nat), leavesF P (leaves P n) k fs = some ks → k + ks.length ≤ cs.length →
     (forIn fs PUnit.unit (fun f _ => (do
      if f.name ≠ "_" then Instr.checkKey e (n + d) f.type (← part f.type cs.toArray f.offset)
      pure (ForInStep.yield PUnit.unit) : Sem (ForInStep PUnit)))).run P w = .ok PUnit.unit w := by
    intro fs
    induction fs with
    | nil => intro k ks _ _; simp
    | cons f fs ihf =>
     intro k ks h hc
     unfold leavesF at h
     split at h
     ·rename_i hcond
      simp only [Bool.and_eq_true, beq_iff_eq, bne_iff_ne] at hcond
      obtain ⟨⟨ho, hn⟩, hkn⟩ := hcond
      split at h
      ·rename_i l hl'
       split at h
       ·rename_i hsz
        simp only [Option.map_eq_some_iff] at h
        obtain ⟨ks', hks', rfl⟩ := h
        rw [List.length_append] at hc
        have hp1 := zra hl' hkn hsz (us := cs.toArray) (k := k) (by simpa using (by omega : k + l.length ≤ cs.length)) w
        have he := ih f.type l hl' d ((cs.toArray.toList.drop k).take l.length) (by simp; omega)
        have hrest := ihf (k + l.length) ks' hks' (by omega)
        simp at hrest
        simp [List.forIn_cons, hn, ho, hp1, he, Result.andThen]
        exact hrest
       ·cases h
      ·cases h
     ·cases h
   have := key fs.toList 0 ks h (by omega)
   simp at this
   simp [this, Result.andThen]
  ·cases h
end
section
variable {num : Names} {P : Program}
variable {ty : TypeId} {pos : String} {after : Array Edge} {a : Act} {C : Cx} {s : St}
theorem zak {cs : List Value} {us : Array Value} (h : ARep num C (.agg (cs.map fun v => AV.imm (.val v))) (.agg us)) : us = cs.toArray := by
 cases h with
 | agg _ _ hl h1 hr =>
  apply Array.ext
  ·simpa using hl.symm
  ·intro i h1 h2
   have hc : i < cs.length := by simpa using h2
   have := hr i (.imm (.val cs[i])) us[i] (by simp [hc]) (by simp [h1])
   have := zpy this
   simpa using this
theorem zv2 (hs : SRep num C s a) {t yt : TypeId} {ks : List Nat} {x y : Operand} {x' y' : Src} {neg : Bool} (hx : trSrc num x = some x') (hy : trSrc num y = some y') (hf : eqStruct P t = some ks) {xs ys : List AV} (h1 : s.env.ev x' = .agg xs) (h2 : s.env.ev y' = .agg ys) {b : Bool} (hb : sameCells ks xs ys = some b) :
  Yields num P (.binOp (if neg then .neq else .eql) t x y yt) ty pos after a C s (.imm (.val (.bool (if neg then !b else b)))) s := by
 unfold eqStruct at hf
 split at hf
 ·rename_i ks' hf'
  cases hf
  exact zv1 hs hx hy hf' h1 h2 hb
 ·split at hf
  ·rename_i fs ht
   split at hf
   ·cases hf
   rename_i hg
   have hg : P.eqGuardType P.depth t = false := by simpa using hg
   have hax := zsp hs hx
   have hay := zsp hs hy
   rw [h1] at hax
   rw [h2] at hay
   obtain ⟨cs, ds, rfl, rfl, hv⟩ := zrk _ _ _ _ hb
   generalize hu : a.eval x = u at hax
   generalize hv' : a.eval y = v at hay
   have hu2 : ∃ us, u = .agg us := by cases hax with | agg _ us => exact ⟨us, rfl⟩
   have hv2 : ∃ us, v = .agg us := by cases hay with | agg _ us => exact ⟨us, rfl⟩
   obtain ⟨us, rfl⟩ := hu2
   obtain ⟨vs, rfl⟩ := hv2
   obtain rfl := zak hax
   obtain rfl := zak hay
   have hrun : (Op.equalIn 10000 t (.agg cs.toArray) (.agg ds.toArray)).run P C.w = .ok b C.w := by
    have := zes C.w 100 t ks hf 9900 cs ds b hv
    simpa only [mkV, ht] using this
   refine zwj (v := .bool (if neg then !b else b)) hs (fun _ _ => ?_) (.imm _ _ (.val _ rfl))
   cases neg
   ·simp only [execOp, hu, hv', Sem.run_bind, Bool.false_eq_true, if_false, run_eqGuard_agg C.w _ t x y _ _ hg, Result.andThen_ok, run_eql_struct, hrun]
    rfl
   ·simp only [execOp, hu, hv', Sem.run_bind, if_true, run_eqGuard_agg C.w _ t x y _ _ hg, Result.andThen_ok, run_neq_struct, hrun]
    rfl
  ·cases hf
end
end Go.EX


namespace Go.EX
section
variable {num : Names} {P : Program}
variable {ty : TypeId} {pos : String} {after : Array Edge} {a : Act} {C : Cx} {s : St}
theorem put_tr {m : Mem} (hm : MRep num C m) {id : Nat} {o : AObj} (ho : m[id]? = some o) (hlo : o.live = true) {w' : World}
  (hno : ∀ arr e fz, C.w.heap[C.σ id]? ≠ some (.cells arr e fz)) (hw : ∀ b, b ≠ C.σ id → w'.heap[b]? = C.w.heap[b]?) : Tr some C { C with w := w' } := by
 refine ⟨fun _ h => h, fun b hb => hw b fun e => hm.imm b ⟨id, o, ho, hlo, e.symm⟩ hb, fun i j hi hj => ?_⟩
 cases hj
 refine ⟨hi, rfl, fun arr e h => h.same (hw _ fun hc => ?_)⟩
 obtain ⟨a, fz, h1, _⟩ := h
 exact hno a e fz (by rw [← hc]; exact h1)
theorem zoo {m : Mem} (hm : MRep num C m) {id : Nat} {o o' : AObj} (ho : m[id]? = some o) (hlo : o.live = true) {w' : World}
  (hno : ∀ arr e fz, C.w.heap[C.σ id]? ≠ some (.cells arr e fz)) (hw : ∀ b, b ≠ C.σ id → w'.heap[b]? = C.w.heap[b]?) (hos : w'.os = C.w.os) (htp : w'.tape = C.w.tape) (hout : w'.output = C.w.output) (hsize : w'.heap.size = C.w.heap.size)
  (hmv : o.moved = false) (hr : ORep num { C with w := w' } id o') {k : Nat} (hk : k ≤ m.length) (hof : o.isFix = false := by rfl) :
  Step num k C m { C with w := w' } (m.set id o') := by
 have ht := put_tr hm ho hlo hno hw
 have back : ∀ (i : Nat) (p : AObj), (m.set id o')[i]? = some p → (i = id ∧ p = o') ∨ (i ≠ id ∧ m[i]? = some p) := by
  intro i p hp
  rw [zr1] at hp
  split at hp
  ·rename_i hi; exact .inl ⟨hi.1.symm, (Option.some.inj hp).symm⟩
  ·rename_i hi
   exact .inr ⟨fun e => hi ⟨e.symm, (List.getElem?_eq_some_iff.1 hp).1⟩, hp⟩
 have hown : ∀ b, Own { C with w := w' } (m.set id o') b → Own C m b := by
  rintro b ⟨i, p, hp, hl, hb⟩
  rcases back i p hp with ⟨rfl, rfl⟩ | ⟨_, hp'⟩
  ·exact ⟨i, o, ho, hlo, hb⟩
  ·exact ⟨i, p, hp', hl, hb⟩
 refine ⟨⟨by simpa using hm.len, fun i p hp => ?_, fun i j p q hp hq hlp hlq hσ => ?_, fun b hb => hm.imm b (hown b hb), fun b hb => by show b < w'.heap.size; rw [hsize]; exact hm.bd b hb, num.up hm.glo ht.imm ht.keep⟩, hos, htp, hout, by show _ ≤ w'.heap.size; omega, fun b _ hb => hw b fun e => hb ⟨id, o, ho, hlo, e.symm⟩,
  fun b arr e h => h.same ?_, fun _ h => h, fun _ h => .inl h, fun b hb => .inr (hown b hb), fun i _ p hp hmp => ?_, by simpa using hk⟩
 ·rcases back i p hp with ⟨rfl, rfl⟩ | ⟨hne, hp'⟩
  ·exact hr
  ·by_cases hlp : p.live = true
   ·refine zmw ht rfl (fun x hx => ?_) (hm.obj i p hp')
    show w'.heap[C.σ i]? = _
    rw [hw _ fun e => hne (hm.inj2 num i id p o hp' ho hlp hlo hof e)]; exact hx
   ·cases p with
    | dead => trivial
    | _ => exact absurd rfl hlp
 ·have hl : ∀ (i : Nat) (p : AObj), (m.set id o')[i]? = some p → p.live = true → ∃ p' : AObj, m[i]? = some p' ∧ p'.live = true ∧ (p' = p ∨ p'.isFix = false) := by
   intro i p hp hl
   rcases back i p hp with ⟨rfl, rfl⟩ | ⟨_, hp'⟩
   ·exact ⟨o, ho, hlo, .inr hof⟩
   ·exact ⟨p, hp', hl, .inl rfl⟩
  obtain ⟨p', hp', hlp', hp3⟩ := hl i p hp hlp
  obtain ⟨q', hq', hlq', hq3⟩ := hl j q hq hlq
  rcases hm.inj i j p' q' hp' hq' hlp' hlq' hσ with h | h
  ·exact .inl h
  ·rcases hp3 with rfl | h3
   ·rcases hq3 with rfl | h4
    ·exact .inr h
    ·rw [(zt9 h).2] at h4; cases h4
   ·rw [(zt9 h).1] at h3; cases h3
 ·obtain ⟨a, fz, h1, _⟩ := h
  exact hw b fun e' => hno a e fz (by rw [← e']; exact h1)
 ·rcases back i p hp with ⟨rfl, rfl⟩ | ⟨_, hp'⟩
  ·exact ⟨o, ho, hmv, rfl⟩
  ·exact ⟨p, hp', hmp, rfl⟩
def IsK (P : Program) (w : World) (kt : TypeId) : Nat → Value → Prop
 | 0, v => ∃ j k n, P.underlying kt = some (.int j) ∧ v = .int k n
 | 1, v => ∃ b, P.underlying kt = some .bool ∧ v = .bool b
 | 2, v => ∃ b, P.underlying kt = some .string ∧ v = .string b
 | 3, v => ∃ e i b o, P.underlying kt = some (.pointer e) ∧ P.info? e = some i ∧ i.size ≠ 0 ∧ v = .pointer (some ⟨b, o, none⟩)
 | _ + 4, v => ∃ fs ks cs, P.underlying kt = some (.struct fs) ∧ leaves P 100 kt = some ks ∧ cs.length = ks.length ∧ v = mkV P kt cs
theorem zaj {xs : List AV} {cs : List Value} (hx : xs = cs.map fun v => AV.imm (.val v)) {v : Value} (h : ARep num C (.agg xs) v) : v = .agg cs.toArray := by
 subst hx
 cases h with
 | agg _ us hl h1 h2 =>
  congr 1
  apply Array.toList_inj.1
  refine List.ext_getElem? fun j => ?_
  rw [List.length_map] at hl
  rcases Nat.lt_or_ge j cs.length with hj | hj
  ·have hju : j < us.size := by omega
   have := h2 j (.imm (.val cs[j])) us[j] (by simp [hj]) (by simp [hju])
   have := zpy this
   simp [hj, hju, this]
  ·rw [List.getElem?_eq_none (by simp; omega), List.getElem?_eq_none (by simpa using hj)]
theorem zlw {kt : TypeId} {kind : Nat} (h : keyKind P kt = some kind) (hk : kind < 4) (fs : Array Field) : P.underlying kt ≠ some (.struct fs) := by
 intro he
 unfold keyKind at h
 rw [he] at h
 dsimp only at h
 split at h
 ·split at h
  ·have := Option.some.inj h; omega
  ·cases h
 ·cases h
theorem zic {kt : TypeId} {kind : Nat} (h : keyKind P kt = some kind) {x : AV} {v : Value} (hx : ARep num C x v) (hk : isKeyAV kind x = true) : IsK P C.w kt kind v := by
 unfold keyKind at h
 split at h
 ·rename_i j hj
  cases h
  unfold isKeyAV at hk
  split at hk <;> first | (cases hk; done) | skip
  all_goals (rename_i h0; first | (cases h0; done) | skip)
  have := zpy hx
  subst this
  exact ⟨_, _, _, hj, rfl⟩
 ·rename_i hj
  cases h
  unfold isKeyAV at hk
  split at hk <;> first | (cases hk; done) | skip
  all_goals (rename_i h0; first | (cases h0; done) | skip)
  have := zpy hx
  subst this
  exact ⟨_, hj, rfl⟩
 ·rename_i hj
  cases h
  unfold isKeyAV at hk
  split at hk <;> first | (cases hk; done) | skip
  all_goals (rename_i h0; first | (cases h0; done) | skip)
  have := zpy hx
  subst this
  exact ⟨_, hj, rfl⟩
 ·rename_i e he
  split at h
  ·rename_i hc
   simp only [Bool.and_eq_true, decide_eq_true_eq] at hc
   cases h
   obtain ⟨i, d, h1, h2, h3, _⟩ := zim hc.1
   unfold isKeyAV at hk
   split at hk <;> first | (cases hk; done) | skip
   all_goals (rename_i h0; first | (cases h0; done) | skip)
   ·cases hx with
    | optr id off hid => exact ⟨e, i, _, _, he, h1, by rw [← h3]; omega, rfl⟩
   ·cases hx with
    | tag _ _ _ _ h ha => cases h with
     | ptr => exact ⟨e, i, _, _, he, h1, by rw [← h3]; omega, rfl⟩
  ·cases h
 ·rename_i fs hfs
  split at h
  ·rename_i ks hks
   split at h
   ·rename_i hdig
    cases h
    unfold isKeyAV at hk
    split at hk <;> first | (cases hk; done) | skip
    all_goals (rename_i h0; first | (cases h0; done) | skip)
    rename_i n xs
    have h0' : undigits ks = n := by simpa using h0
    subst h0'
    rw [hdig] at hk
    obtain ⟨b, hb⟩ := Option.isSome_iff_exists.1 hk
    obtain ⟨cs, ds, h1, _, h3⟩ := zrk _ _ _ _ hb
    have hv := zaj h1 hx
    exact ⟨fs, ks, cs, hfs, hks, (zro _ _ _ _ h3).1, by rw [hv]; simp [mkV, hfs]⟩
   ·cases h
  ·cases h
 ·cases h
theorem zq2 {w : World} {kt : TypeId} {kind : Nat} {v : Value} (h : IsK P w kt kind v) (e : Bool) (n : Nat) (hn : 99 ≤ n) : (Instr.checkKey e (n + 1) kt v).run P w = .ok () w := by
 match kind, h with
 | _ + 4, ⟨fs, ks, cs, h1, h2, h3, h4⟩ => subst h4; rw [show n + 1 = 100 + (n - 99) by omega]; exact zb6 w e 100 kt ks h2 (n - 99) cs h3
 | 0, ⟨j, k, n, h1, h2⟩ => subst h2; simp [Instr.checkKey, run_underlying h1, Result.andThen]
 | 1, ⟨b, h1, h2⟩ => subst h2; simp [Instr.checkKey, run_underlying h1, Result.andThen]
 | 2, ⟨b, h1, h2⟩ => subst h2; simp [Instr.checkKey, run_underlying h1, Result.andThen]
 | 3, ⟨e, i, b, o, h1, _, _, h2⟩ => subst h2; simp [Instr.checkKey, run_underlying h1, Result.andThen]
theorem zg8 {m : Mem} (hm : MRep num C m) {id : Nat} (h : ((m[id]?).getD .dead).hasCells = true) : ∃ o arr e, m[id]? = some o ∧ o.live = true ∧ C.w.heap[C.σ id]? = some (.cells arr e (0, 0)) ∧ o.isFix = false := by
 cases hq : m[id]? with
 | none => simp [hq, AObj.hasCells] at h
 | some o =>
  simp only [hq, Option.getD_some] at h
  have h1 := hm.obj id o hq
  cases o with
  | flat => obtain ⟨arr, e, h2, _⟩ := h1; exact ⟨_, arr, e, rfl, rfl, h2, rfl⟩
  | rich => obtain ⟨arr, e, h2, _⟩ := h1; exact ⟨_, arr, e, rfl, rfl, h2, rfl⟩
  | map => cases h
  | dead => cases h
  | fix => cases h
  | loop => cases h
  | text => cases h
  | iter => cases h
theorem zid {m : Mem} (hm : MRep num C m) {kt : TypeId} {kind : Nat} (hkt : keyKind P kt = some kind) {x y : AV} {u v : Value} (hx : ARep num C x u) (hy : ARep num C y v) {b : Bool} (h : keyEq m kind x y = some b) :
  (kind < 3 → ∃ d, P.underlying kt = some d ∧ Instr.sameNow d u v = some b) ∧ (3 ≤ kind → (∃ d, P.underlying kt = some d ∧ Instr.sameNow d u v = none) ∧ (Op.equal kt u v).run P C.w = .ok b C.w) := by
 unfold keyEq at h
 split at h
 ·rename_i k n j n'
  split at h
  ·rename_i hk
   cases h
   have e1 := zpy hx
   have e2 := zpy hy
   subst e1 e2 hk
   refine ⟨fun _ => ?_, fun h => absurd h (by decide)⟩
   have hns := zlw hkt (by decide)
   unfold keyKind at hkt
   split at hkt <;> first | (cases hkt; done) | (exact absurd ‹P.underlying kt = some (.struct _)› (hns _)) | skip
   ·rename_i hj; exact ⟨_, hj, by simp [Instr.sameNow]⟩
   ·split at hkt <;> cases hkt
  ·cases h
 ·cases h
  have e1 := zpy hx
  have e2 := zpy hy
  subst e1 e2
  refine ⟨fun _ => ?_, fun h => absurd h (by decide)⟩
  have hns := zlw hkt (by decide)
  unfold keyKind at hkt
  split at hkt <;> first | (cases hkt; done) | (exact absurd ‹P.underlying kt = some (.struct _)› (hns _)) | skip
  ·rename_i hj; exact ⟨_, hj, by simp [Instr.sameNow]⟩
  ·split at hkt <;> cases hkt
 ·cases h
  have e1 := zpy hx
  have e2 := zpy hy
  subst e1 e2
  refine ⟨fun _ => ?_, fun h => absurd h (by decide)⟩
  have hns := zlw hkt (by decide)
  unfold keyKind at hkt
  split at hkt <;> first | (cases hkt; done) | (exact absurd ‹P.underlying kt = some (.struct _)› (hns _)) | skip
  ·rename_i hj; exact ⟨_, hj, by simp [Instr.sameNow]⟩
  ·split at hkt <;> cases hkt
 ·rename_i i o j p
  split at h
  ·rename_i hc
   simp only [Bool.and_eq_true] at hc
   cases h
   cases hx with
   | optr _ _ hi =>
    cases hy with
    | optr _ _ hj =>
     refine ⟨fun h => absurd h (by decide), fun _ => ?_⟩
     have hns := zlw hkt (by decide)
     unfold keyKind at hkt
     split at hkt <;> first | (cases hkt; done) | (exact absurd ‹P.underlying kt = some (.struct _)› (hns _)) | skip
     rename_i e he
     split at hkt
     ·rename_i hk
      simp only [Bool.and_eq_true, decide_eq_true_eq] at hk
      obtain ⟨inf, d, h1, h2, h3, _⟩ := zim hk.1
      refine ⟨⟨_, he, by simp [Instr.sameNow]⟩, ?_⟩
      obtain ⟨o1, arr1, e1, g1, g2, g3, g7⟩ := zg8 hm hc.1
      obtain ⟨o2, arr2, e2, g4, g5, g6, g8⟩ := zg8 hm hc.2
      by_cases hs : i = j ∧ o = p
      ·obtain ⟨rfl, rfl⟩ := hs
       have hq : ∀ d : Nat, (Op.equalIn (d + 1) kt (.pointer (some ⟨C.σ i, o, none⟩)) (.pointer (some ⟨C.σ i, o, none⟩))).run P C.w = .ok true C.w := fun d => by
        simp [Op.equalIn, run_underlying he, sizeOf, typeInfo, h1, run_sameAddr_same]
       simpa [Op.equal, Op.maxDepth] using hq 9999
      ·have hne : (⟨C.σ i, o, none⟩ : Addr) ≠ ⟨C.σ j, p, none⟩ := by
        intro heq
        simp only [Addr.mk.injEq, and_true] at heq
        exact hs ⟨hm.inj1 num i j _ _ g1 g4 g2 g5 g7 heq.1, heq.2⟩
       have hb : (i == j && o == p) = false := by
        cases hb : (i == j && o == p) with
        | false => rfl
        | true => simp only [Bool.and_eq_true, beq_iff_eq] at hb; exact absurd hb hs
       rw [hb]
       have hsz : inf.size ≠ 0 := by rw [← h3]; omega
       have hq : ∀ d : Nat, (Op.equalIn (d + 1) kt (.pointer (some ⟨C.σ i, o, none⟩)) (.pointer (some ⟨C.σ j, p, none⟩))).run P C.w = .ok false C.w := fun d => by
        simp [Op.equalIn, run_underlying he, sizeOf, typeInfo, h1, hsz, run_sameAddr_other C.w hne g3 g6]
       simpa [Op.equal, Op.maxDepth] using hq 9999
     ·cases hkt
  ·cases h
 ·rename_i b1 a1 r1 o1 b2 a2 r2 o2
  split at h
  ·rename_i hbb
   cases h
   subst hbb
   cases hx with
   | tag _ _ _ _ hx hxa => cases hx with
    | ptr _ _ bb oo uu hb1 hc1 hu1 => cases hy with
     | tag _ _ _ _ hy hya => cases hy with
      | ptr _ _ bc oc uc hb2 hc2 hu2 =>
       simp only [adrOf, Option.some.injEq, Prod.mk.injEq] at hxa hya
       obtain ⟨rfl, rfl⟩ := hxa
       obtain ⟨rfl, rfl⟩ := hya
       refine ⟨fun h => absurd h (by decide), fun _ => ?_⟩
       have hns := zlw hkt (by decide)
       unfold keyKind at hkt
       split at hkt <;> first | (cases hkt; done) | (exact absurd ‹P.underlying kt = some (.struct _)› (hns _)) | skip
       rename_i e he
       split at hkt
       ·rename_i hk
        simp only [Bool.and_eq_true, decide_eq_true_eq] at hk
        obtain ⟨inf, d, h1, h2, h3, _⟩ := zim hk.1
        refine ⟨⟨_, he, by simp [Instr.sameNow]⟩, ?_⟩
        have hsz : inf.size ≠ 0 := by rw [← h3]; omega
        have hq : ∀ d : Nat, (Op.equalIn (d + 1) kt (.pointer (some ⟨bc, oo + o1, none⟩)) (.pointer (some ⟨bc, oc + o2, none⟩))).run P C.w = .ok (oo + o1 == oc + o2) C.w := fun d => by
         by_cases hab : oo + o1 = oc + o2
         ·rw [hab]; simp [Op.equalIn, run_underlying he, sizeOf, typeInfo, h1, run_sameAddr_same]
         ·have hf : (oo + o1 == oc + o2) = false := by simpa using hab
          rw [hf]
          simp [Op.equalIn, run_underlying he, sizeOf, typeInfo, h1, hsz, sameAddr, hab]
        simpa [Op.equal, Op.maxDepth] using hq 9999
       ·cases hkt
  ·cases h
 ·rename_i n xs ys
  refine ⟨fun h => absurd h (by omega), fun _ => ?_⟩
  unfold keyKind at hkt
  split at hkt <;> first | (cases hkt; done) | skip
  ·split at hkt
   ·have := Option.some.inj hkt; omega
   ·cases hkt
  rename_i fs hfs
  split at hkt
  ·rename_i ks hks
   split at hkt
   ·rename_i hdig
    have hn : undigits ks = n := by have := Option.some.inj hkt; omega
    subst hn
    rw [hdig] at h
    obtain ⟨cs, ds, h1, h2, h3⟩ := zrk _ _ _ _ h
    have e1 := zaj h1 hx
    have e2 := zaj h2 hy
    subst e1 e2
    refine ⟨⟨_, hfs, by simp [Instr.sameNow]⟩, ?_⟩
    have := zes (P := P) C.w 100 kt ks hks 9900 cs ds b h3
    simp only [mkV, hfs] at this
    exact this
   ·cases hkt
  ·cases hkt
 ·cases h
theorem zq6 {m : Mem} (hm : MRep num C m) {kt : TypeId} {kind : Nat} (hkt : keyKind P kt = some kind) {k : AV} {kv : Value} (hk : ARep num C k kv) {es : List (AV × AV)} {es' : List MapEntry} (hl : es'.length = es.length)
  (hes : ∀ (j : Nat) (p : AV × AV) (x : MapEntry), es[j]? = some p → es'[j]? = some x → ARep num C p.1 x.key) {r : Option Nat} (h : findK m kind k es 0 = some r) :
  ∃ q, (Instr.findKey kt kv es').run P C.w = .ok q C.w ∧ q = r.bind fun i => (es'[i]?).map fun x => (i, x.val) := by
 have hd : ∃ d, P.underlying kt = some d := by
  unfold keyKind at hkt
  split at hkt <;> first | (rename_i hd; exact ⟨_, hd⟩) | skip
  cases hkt
 obtain ⟨d, hd⟩ := hd
 by_cases h3 : 3 ≤ kind
 ·have asking : ∀ (es : List (AV × AV)) (es' : List MapEntry) (i : Nat) (r : Option Nat), es'.length = es.length → (∀ (j : Nat) (p : AV × AV) (x : MapEntry), es[j]? = some p → es'[j]? = some x → ARep num C p.1 x.key) → findK m kind k es i = some r →
    (Instr.findAsking kt kv es' i).run P C.w = .ok (r.bind fun j => (es'[j - i]?).map fun x => (j, x.val)) C.w ∧ (∀ j, r = some j → i ≤ j) := by
   intro es
   induction es with
   | nil =>
    intro es' i r hl _ h
    have : es' = [] := by simpa using hl
    subst this
    cases h
    exact ⟨by simp [Instr.findAsking], fun j hj => by cases hj⟩
   | cons e es ih =>
    intro es' i r hl hes h
    cases es' with
    | nil => simp at hl
    | cons e' es' =>
     simp only [findK] at h
     have h0 := hes 0 e e' rfl rfl
     cases hke : keyEq m kind k e.1 with
     | none => rw [hke] at h; cases h
     | some b =>
      rw [hke] at h
      obtain ⟨_, hrun⟩ := (zid hm hkt hk h0 hke).2 h3
      cases b with
      | true =>
       cases h
       refine ⟨?_, fun j hj => by cases hj; exact Nat.le_refl _⟩
       simp [Instr.findAsking, hrun, Result.andThen]
      | false =>
       obtain ⟨g1, g2⟩ := ih es' (i + 1) r (by simpa using hl) (fun j p x hp hx => hes (j + 1) p x (by simpa using hp) (by simpa using hx)) h
       refine ⟨?_, fun j hj => by have := g2 j hj; omega⟩
       simp only [Instr.findAsking, Sem.run_bind, hrun, Result.andThen_ok, Bool.false_eq_true, if_false]
       rw [g1]
       cases r with
       | none => rfl
       | some j =>
        have := g2 j rfl
        simp only [Option.bind_some]
        rw [show j - i = (j - (i + 1)) + 1 by omega, List.getElem?_cons_succ]
  cases es with
  | nil =>
   have : es' = [] := by simpa using hl
   subst this
   cases h
   exact ⟨none, by simp [Instr.findKey, run_underlying hd, Result.andThen, Instr.findNow], rfl⟩
  | cons e es =>
   cases es' with
   | nil => simp at hl
   | cons e' es' =>
    have h0 := hes 0 e e' rfl rfl
    have hnow : Instr.findNow d kv (e' :: es') 0 = none := by
     simp only [findK] at h
     cases hke : keyEq m kind k e.1 with
     | none => rw [hke] at h; cases h
     | some b =>
      obtain ⟨⟨d', hd', hs⟩, _⟩ := (zid hm hkt hk h0 hke).2 h3
      rw [hd] at hd'
      cases hd'
      simp [Instr.findNow, hs]
    obtain ⟨g1, _⟩ := asking (e :: es) (e' :: es') 0 r hl hes h
    refine ⟨_, ?_, rfl⟩
    simp only [Instr.findKey, Sem.run_bind, run_underlying hd, Result.andThen_ok, hnow]
    rw [g1]; simp
 ·have now : ∀ (es : List (AV × AV)) (es' : List MapEntry) (i : Nat) (r : Option Nat), es'.length = es.length → (∀ (j : Nat) (p : AV × AV) (x : MapEntry), es[j]? = some p → es'[j]? = some x → ARep num C p.1 x.key) → findK m kind k es i = some r →
    Instr.findNow d kv es' i = some (r.bind fun j => (es'[j - i]?).map fun x => (j, x.val)) ∧ (∀ j, r = some j → i ≤ j) := by
   intro es
   induction es with
   | nil =>
    intro es' i r hl _ h
    have : es' = [] := by simpa using hl
    subst this
    cases h
    exact ⟨rfl, fun j hj => by cases hj⟩
   | cons e es ih =>
    intro es' i r hl hes h
    cases es' with
    | nil => simp at hl
    | cons e' es' =>
     simp only [findK] at h
     have h0 := hes 0 e e' rfl rfl
     cases hke : keyEq m kind k e.1 with
     | none => rw [hke] at h; cases h
     | some b =>
      rw [hke] at h
      obtain ⟨d', hd', hs⟩ := (zid hm hkt hk h0 hke).1 (by omega)
      rw [hd] at hd'
      cases hd'
      cases b with
      | true =>
       cases h
       exact ⟨by simp [Instr.findNow, hs], fun j hj => by cases hj; exact Nat.le_refl _⟩
      | false =>
       obtain ⟨g1, g2⟩ := ih es' (i + 1) r (by simpa using hl) (fun j p x hp hx => hes (j + 1) p x (by simpa using hp) (by simpa using hx)) h
       refine ⟨?_, fun j hj => by have := g2 j hj; omega⟩
       simp only [Instr.findNow, hs, g1]
       cases r with
       | none => rfl
       | some j =>
        have := g2 j rfl
        simp only [Option.bind_some]
        rw [show j - i = (j - (i + 1)) + 1 by omega, List.getElem?_cons_succ]
  obtain ⟨g1, _⟩ := now es es' 0 r hl hes h
  refine ⟨_, ?_, rfl⟩
  simp only [Instr.findKey, Sem.run_bind, run_underlying hd, Result.andThen_ok, g1]
  simp
theorem zf0 {m : Mem} {kind : Nat} {k : AV} : ∀ (es : List (AV × AV)) (i0 i : Nat), findK m kind k es i0 = some (some i) → i0 ≤ i ∧ ∃ p, es[i - i0]? = some p ∧ keyEq m kind k p.1 = some true
 | [], i0, i, h => by cases h
 | e :: es, i0, i, h => by
  simp only [findK] at h
  cases hk : keyEq m kind k e.1 with
  | none => rw [hk] at h; cases h
  | some b =>
   rw [hk] at h
   cases b with
   | true => cases h; exact ⟨Nat.le_refl _, e, by simp, hk⟩
   | false =>
    obtain ⟨h1, p, h2, h3⟩ := zf0 es (i0 + 1) i h
    refine ⟨by omega, p, ?_, h3⟩
    rw [show i - i0 = (i - (i0 + 1)) + 1 by omega, List.getElem?_cons_succ]; exact h2
theorem zif {m : Mem} {kind : Nat} {x y : AV} {u v : Value} (hx : ARep num C x u) (hy : ARep num C y v) (h : keyEq m kind x y = some true) (w : World) : (Instr.keyThatStays v u).run P w = .ok u w := by
 have key : v = u ∧ Instr.sameBits 10000 v u = true := by
  unfold keyEq at h
  split at h
  ·split at h
   ·rename_i hk
    have e1 := zpy hx
    have e2 := zpy hy
    subst e1 e2 hk
    simp at h
    subst h
    exact ⟨rfl, by simp [Instr.sameBits]⟩
   ·cases h
  ·have e1 := zpy hx
   have e2 := zpy hy
   subst e1 e2
   simp at h
   subst h
   exact ⟨rfl, by simp [Instr.sameBits]⟩
  ·have e1 := zpy hx
   have e2 := zpy hy
   subst e1 e2
   simp only [Option.some.injEq] at h
   have := (MapKept.bytes_beq _ _).1 h
   subst this
   exact ⟨rfl, by simp only [Instr.sameBits]; exact h⟩
  ·split at h
   ·simp only [Option.some.injEq, Bool.and_eq_true, beq_iff_eq] at h
    obtain ⟨rfl, rfl⟩ := h
    cases hx with
    | optr => cases hy with
     | optr => exact ⟨rfl, by simp [Instr.sameBits]⟩
   ·cases h
  ·split at h
   ·rename_i hbb
    simp only [Option.some.injEq, beq_iff_eq] at h
    subst hbb h
    cases hx with
    | tag _ _ _ _ hx hxa => cases hx with
     | ptr => cases hy with
      | tag _ _ _ _ hy hya => cases hy with
       | ptr =>
        simp only [adrOf, Option.some.injEq, Prod.mk.injEq] at hxa hya
        obtain ⟨rfl, h1⟩ := hxa
        obtain ⟨rfl, h2⟩ := hya
        rw [h1, h2]
        exact ⟨rfl, by simp [Instr.sameBits]⟩
   ·cases h
  ·obtain ⟨cs, ds, h1, h2, h3⟩ := zrk _ _ _ _ h
   have e1 := zaj h1 hx
   have e2 := zaj h2 hy
   subst e1 e2
   have := zrr _ _ _ h3
   obtain ⟨rfl, hbits⟩ := this
   exact ⟨rfl, by simp [Instr.sameBits, hbits]⟩
  ·cases h
 obtain ⟨rfl, hb⟩ := key
 simp [Instr.keyThatStays, hb]
theorem zwl {t : TypeId} {zs : List Value} {agg : Bool} (h : zeroOf P t = some (zs, agg)) (D : Cx) : ∃ z, (∀ w, (zeroValue t).run P w = .ok z w) ∧ ARep num D (zeroAV zs agg) z := by
 unfold zeroOf at h
 cases hi : P.info? t with
 | none => simp [hi] at h
 | some i =>
  cases hz : i.zero with
  | none => simp [hi, hz] at h
  | some z =>
   have hrun : ∀ w, (zeroValue t).run P w = .ok z w := fun w => by simp [zeroValue, typeInfo, hi, hz]
   refine ⟨z, hrun, ?_⟩
   simp only [hi, Option.bind_some, hz] at h
   split at h
   ·rename_i cs heq
    cases heq
    split at h
    ·rename_i hone
     cases h
     refine .agg _ _ (by simp [imZ]) (fun j u hu => ?_) (fun j x u hx hu => ?_)
     ·rw [← zmi]
      exact List.all_eq_true.1 hone u (by rw [Array.mem_toList_iff]; exact Array.mem_of_getElem? hu)
     ·simp only [imZ, List.getElem?_map, Array.getElem?_toList, hu, Option.map_some, Option.some.injEq] at hx
      subst hx
      refine .imm _ _ (.val u ?_)
      rw [← zmi]
      exact List.all_eq_true.1 hone u (by rw [Array.mem_toList_iff]; exact Array.mem_of_getElem? hu)
    ·cases h
   ·rename_i z' _ heq
    cases heq
    split at h
    ·rename_i hone
     cases h
     exact .imm _ _ (.val _ (by rw [← zmi]; exact hone))
    ·cases h
   ·cases h
theorem zv8 (hs : SRep num C s a) {t kt e : TypeId} {r : Option Operand} {r' : Option Src} (ht : P.underlying t = some (.map kt e)) (hr : r.mapM (trSrc num) = some r') (hi : ∀ x, r' = some x → ∃ i, intOf (s.env.ev x) = some i) :
  Yields num P (.makeMap t r) ty pos after a C s (.omap s.mem.length) { s with mem := s.mem ++ [.map []] } := by
 have hlen := hs.mem.len
 have hnew : ORep num (C.more C.w (.map #[] 0)) C.n (.map []) := by
  refine ⟨#[], 0, ?_, rfl, fun j p x hp _ => by simp at hp⟩
  simp only [Cx.more, if_true]
  rw [zal, if_pos rfl]
 refine ⟨.map (some C.w.heap.size), C.more C.w (.map #[] 0), fun _ _ => .inl ?_, zk2 hs.mem rfl rfl rfl rfl _ (.map []) hnew hs.k, hs.env.mono (zk3 hs.mem rfl _), ?_, rfl⟩
 ·cases r with
  | none => simp [execOp, Instr.makeMap, newObj, Cx.more, Sem.run]
  | some x =>
   simp only [Option.mapM_some, Option.map_eq_map, Option.map_eq_some_iff] at hr
   obtain ⟨x', hx, rfl⟩ := hr
   obtain ⟨i, hi⟩ := hi x' rfl
   obtain ⟨k, hk, _⟩ := zpx (zsp hs hx) hi
   simp [execOp, Instr.makeMap, newObj, Cx.more, Sem.run, hk, run_underlying ht, asInt, asIntOf, Result.andThen]
 ·rw [hlen]
  have : C.w.heap.size = (C.more C.w (.map #[] 0)).σ C.n := by simp [Cx.more]
  rw [this]
  exact .omap _ (by simp [Cx.more])
theorem map_of {m : Mem} (hm : MRep num C m) {id : Nat} {v : Value} (h : ARep num C (.omap id) v) {es : List (AV × AV)} (he : m[id]? = some (.map es)) :
  ∃ (es' : Array MapEntry) (clock : Nat), v = .map (some (C.σ id)) ∧ C.w.heap[C.σ id]? = some (.map es' clock) ∧ es'.size = es.length ∧ ∀ (j : Nat) (p : AV × AV) (x : MapEntry), es[j]? = some p → es'[j]? = some x → ARep num C p.1 x.key ∧ ARep num C p.2 x.val := by
 cases h with
 | omap _ hid =>
  obtain ⟨es', clock, h1, h2, h3⟩ := hm.obj id _ he
  exact ⟨es', clock, rfl, h1, h2, h3⟩
theorem zm1 {D : Cx} {x : AV} {v : Value} (h : ARep num D x v) (ok b : Bool) : ARep num D (if ok then .tup [x, .imm (.val (.bool b))] else x) (if ok then .tuple #[v, .bool b] else v) := by
 cases ok with
 | false => exact h
 | true =>
  refine .tup _ _ rfl fun j y u hy hu => ?_
  match j with
  | 0 => simp at hy hu; subst hy hu; exact h
  | 1 => simp at hy hu; subst hy hu; exact .imm _ _ (.val _ rfl)
  | j + 2 => simp at hy
theorem zv7 (hs : SRep num C s a) {t kt e : TypeId} {m k : Operand} {m' k' : Src} {kind : Nat} {zs : List Value} {agg ok : Bool} (ht : P.underlying t = some (.map kt e)) (hm : trSrc num m = some m') (hk : trSrc num k = some k') (hkt : keyKind P kt = some kind) (hz : zeroOf P e = some (zs, agg)) {call : Calls'} {r : AV} {s' : St}
  (h : exOp call s (.lookup kind zs agg m' k' ok) = some (r, s')) : Yields num P (.lookup t m k ok) ty pos after a C s r s' := by
 simp only [exOp] at h
 split at h
 ·rename_i hik
  have hkr := zsp hs hk
  have hmr := zsp hs hm
  have hisk := zic hkt hkr hik
  obtain ⟨z, hzr, hza⟩ := zwl (num := num) hz C
  generalize hmv : s.env.ev m' = mv at h hmr
  split at h
  ·have hv := zpy hmr
   have : r = (if ok then .tup [zeroAV zs agg, .imm (.val (.bool false))] else zeroAV zs agg) ∧ s' = s := by
    cases ok <;> (simp at h; exact ⟨h.1.symm, h.2.symm⟩)
   obtain ⟨rfl, rfl⟩ := this
   refine zwj hs (fun _ _ => ?_) (zm1 hza ok false)
   have hd : ∃ d, P.underlying kt = some d := by
    unfold keyKind at hkt
    split at hkt <;> first | (rename_i hd; exact ⟨_, hd⟩) | skip
    cases hkt
   obtain ⟨d, hd⟩ := hd
   simp only [execOp, Instr.lookup, hv, Sem.run_bind, run_underlying ht, Result.andThen_ok, Sem.run_pure, zq2 hisk _ 9999 (by decide), Instr.findKey, run_underlying hd, Instr.findNow, hzr]
  ·rename_i id
   split at h
   ·rename_i es hes
    obtain ⟨es', clock, hv, hb, hl, hall⟩ := map_of hs.mem hmr hes
    have hkeys : ∀ (j : Nat) (p : AV × AV) (x : MapEntry), es[j]? = some p → es'.toList[j]? = some x → ARep num C p.1 x.key := fun j p x hp hx => (hall j p x hp (by simpa using hx)).1
    split at h
    ·rename_i hf
     obtain ⟨q, hq, hqe⟩ := zq6 hs.mem hkt hkr (es' := es'.toList) (by simpa using hl) hkeys hf
     have : r = (if ok then .tup [zeroAV zs agg, .imm (.val (.bool false))] else zeroAV zs agg) ∧ s' = s := by
      cases ok <;> (simp at h; exact ⟨h.1.symm, h.2.symm⟩)
     obtain ⟨rfl, rfl⟩ := this
     refine zwj hs (fun _ _ => ?_) (zm1 hza ok false)
     simp only [Option.bind_none] at hqe
     subst hqe
     simp [execOp, Instr.lookup, hv, run_underlying ht, MapKept.run_getObj_map hb, zq2 hisk _ 9999 (by decide), hq, hzr, Result.andThen]
    ·rename_i i hf
     obtain ⟨q, hq, hqe⟩ := zq6 hs.mem hkt hkr (es' := es'.toList) (by simpa using hl) hkeys hf
     cases hp : es[i]? with
     | none => rw [hp] at h; cases h
     | some p =>
      rw [hp] at h
      have hi : i < es'.size := by rw [hl]; exact (List.getElem?_eq_some_iff.1 hp).1
      have hx : es'[i]? = some es'[i] := by simp [hi]
      have : r = (if ok then .tup [p.2, .imm (.val (.bool true))] else p.2) ∧ s' = s := by
       cases ok <;> (simp at h; exact ⟨h.1.symm, h.2.symm⟩)
      obtain ⟨rfl, rfl⟩ := this
      refine zwj hs (fun _ _ => ?_) (zm1 (hall i p _ hp hx).2 ok true)
      simp only [Option.bind_some, Array.getElem?_toList, hx, Option.map_some] at hqe
      subst hqe
      simp [execOp, Instr.lookup, hv, run_underlying ht, MapKept.run_getObj_map hb, zq2 hisk _ 9999 (by decide), hq, Result.andThen]
    ·cases h
   ·cases h
  ·cases h
 ·cases h
theorem zv9 (hs : SRep num C s a) {t kt e : TypeId} {m k x : Operand} {m' k' x' : Src} {kind : Nat} (ht : P.underlying t = some (.map kt e)) (hm : trSrc num m = some m') (hk : trSrc num k = some k') (hx : trSrc num x = some x') (hkt : keyKind P kt = some kind) {call : Calls'} {r : AV} {s' : St}
  (h : exOp call s (.mapSet kind m' k' x') = some (r, s')) {op : Op} (hop : op = .mapUpdate t m k x ∨ op = .insert t m k x) : Yields num P op ty pos after a C s r s' := by
 simp only [exOp] at h
 split at h
 ·rename_i hik
  have hkr := zsp hs hk
  have hmr := zsp hs hm
  have hxr := zsp hs hx
  have hisk := zic hkt hkr hik
  generalize hmv : s.env.ev m' = mv at h hmr
  split at h
  ·rename_i id
   split at h
   ·rename_i es hes
    obtain ⟨es', clock, hv, hb, hl, hall⟩ := map_of hs.mem hmr hes
    have hkeys : ∀ (j : Nat) (p : AV × AV) (x : MapEntry), es[j]? = some p → es'.toList[j]? = some x → ARep num C p.1 x.key := fun j p x hp hx => (hall j p x hp (by simpa using hx)).1
    have hexec : ∀ {w' : World}, (Instr.mapUpdate t (.map (some (C.σ id))) (a.eval k) (a.eval x)).run P C.w = .ok () w' → ∀ dst g, (execOp a.eval ⟨dst, op, ty, pos, after, g⟩).run P C.w = .ok .skip w' := by
     intro w' hw dst g
     rcases hop with rfl | rfl <;> simp [execOp, hv, hw, Result.andThen]
    have hset : ∀ (es2 : Array MapEntry) (clock2 : Nat), let w' := { C.w with heap := C.w.heap.setIfInBounds (C.σ id) (.map es2 clock2) }
      w'.heap[C.σ id]? = some (.map es2 clock2) ∧ (∀ b, b ≠ C.σ id → w'.heap[b]? = C.w.heap[b]?) ∧ w'.heap.size = C.w.heap.size := by
     intro es2 clock2
     exact ⟨(MapKept.heap_set hb).1, (MapKept.heap_set hb).2, by simp⟩
    have hno : ∀ arr e fz, C.w.heap[C.σ id]? ≠ some (.cells arr e fz) := fun arr e fz h => by rw [hb] at h; cases h
    have build : ∀ (es2 : Array MapEntry) (clock2 : Nat) (l : List (AV × AV)), es2.size = l.length → (∀ (j : Nat) (p : AV × AV) (y : MapEntry), l[j]? = some p → es2[j]? = some y → ARep num C p.1 y.key ∧ ARep num C p.2 y.val) →
      (Instr.mapUpdate t (.map (some (C.σ id))) (a.eval k) (a.eval x)).run P C.w = .ok () { C.w with heap := C.w.heap.setIfInBounds (C.σ id) (.map es2 clock2) } →
      Yields num P op ty pos after a C s .junk { s with mem := s.mem.set id (.map l) } := by
     intro es2 clock2 l hl2 hall2 hrun
     obtain ⟨h1, h2, h3⟩ := hset es2 clock2
     have ht2 := put_tr hs.mem hes rfl hno h2
     have hnew : ORep num { C with w := { C.w with heap := C.w.heap.setIfInBounds (C.σ id) (.map es2 clock2) } } id (.map l) := by
      refine ⟨es2, clock2, h1, hl2, fun j p y hp hy => ?_⟩
      obtain ⟨g1, g2⟩ := hall2 j p y hp hy
      exact ⟨g1.mono ht2, g2.mono ht2⟩
     refine ⟨undef, { C with w := { C.w with heap := C.w.heap.setIfInBounds (C.σ id) (.map es2 clock2) } }, fun dst g => .inr ⟨hexec hrun dst g, rfl⟩, zoo hs.mem hes rfl hno h2 rfl rfl rfl h3 rfl (o' := .map l) hnew hs.k, hs.env.mono ht2, .junk _, rfl⟩
    split at h
    ·rename_i hf
     cases h
     obtain ⟨q, hq, hqe⟩ := zq6 hs.mem hkt hkr (es' := es'.toList) (by simpa using hl) hkeys hf
     simp only [Option.bind_none] at hqe
     subst hqe
     refine build (es'.push { key := a.eval k, val := a.eval x, born := clock }) (clock + 1) _ (by simp [hl]) (fun j p y hp hy => ?_) ?_
     ·rcases Nat.lt_or_ge j es.length with hj | hj
      ·rw [List.getElem?_append_left hj] at hp
       rw [Array.getElem?_push, if_neg (by omega)] at hy
       exact hall j p y hp hy
      ·have hj' : j = es.length := by
        have := (List.getElem?_eq_some_iff.1 hp).1
        simp at this; omega
       subst hj'
       simp at hp
       rw [Array.getElem?_push, if_pos hl.symm] at hy
       cases hy
       subst hp
       exact ⟨hkr, hxr⟩
     ·simp [Instr.mapUpdate, run_underlying ht, MapKept.run_getObj_map hb, zq2 hisk _ 9999 (by decide), hq, MapKept.run_setObj_map _ hb, Result.andThen]
    ·rename_i i hf
     cases h
     obtain ⟨q, hq, hqe⟩ := zq6 hs.mem hkt hkr (es' := es'.toList) (by simpa using hl) hkeys hf
     obtain ⟨_, p, hp, hke⟩ := zf0 es 0 i hf
     simp only [Nat.sub_zero] at hp
     have hi : i < es'.size := by rw [hl]; exact (List.getElem?_eq_some_iff.1 hp).1
     have hx' : es'[i]? = some es'[i] := by simp [hi]
     simp only [Option.bind_some, Array.getElem?_toList, hx', Option.map_some] at hqe
     subst hqe
     have hstay := zif (P := P) hkr (hall i p _ hp hx').1 hke C.w
     refine build (es'.modify i fun e => { e with key := a.eval k, val := a.eval x }) clock _ (by simp [hl]) (fun j p2 y hp2 hy => ?_) ?_
     ·rw [zr1] at hp2
      rw [Array.getElem?_modify] at hy
      split at hp2
      ·rename_i hij
       obtain ⟨rfl, _⟩ := hij
       cases hp2
       rw [if_pos rfl, hx'] at hy
       cases hy
       exact ⟨hkr, hxr⟩
      ·rename_i hij
       have hne : i ≠ j := fun e => hij ⟨e, (List.getElem?_eq_some_iff.1 hp2).1⟩
       rw [if_neg hne] at hy
       exact hall j p2 y hp2 hy
     ·simp [Instr.mapUpdate, run_underlying ht, MapKept.run_getObj_map hb, zq2 hisk _ 9999 (by decide), hq, hx', hi, hstay, MapKept.run_setObj_map _ hb, Result.andThen]
    ·cases h
   ·cases h
  ·cases h
 ·cases h
theorem y_lenM (hs : SRep num C s a) {t kt e : TypeId} {x : Operand} {x' : Src} (hx : trSrc num x = some x') (ht : P.underlying t = some (.map kt e)) {call : Calls'} {r : AV} {s' : St} (h : exOp call s (.lenM x') = some (r, s')) :
  Yields num P (.call ⟨.builtin .len, #[x], #[t]⟩) ty pos after a C s r s' := by
 have hxr := zsp hs hx
 simp only [exOp] at h
 generalize hmv : s.env.ev x' = mv at h hxr
 split at h
 ·cases h
  have hv := zpy hxr
  refine zwj hs (fun _ _ => ?_) (.imm _ _ (.val _ rfl))
  simp [execOp, resolve, invoke, builtin, hv, Builtin.len_, run_underlying ht, goInt]
 ·rename_i id
  split at h
  ·rename_i es hes
   cases h
   obtain ⟨es', clock, hv, hb, hl, hall⟩ := map_of hs.mem hxr hes
   refine zwj hs (fun _ _ => ?_) (.imm _ _ (.val _ rfl))
   simp [execOp, resolve, invoke, builtin, hv, Builtin.len_, run_underlying ht, MapKept.run_getObj_map hb, goInt, hl, Result.andThen]
  ·cases h
 ·cases h
end
end Go.EX


namespace Go.EX
section
variable {num : Names} {P : Program}
variable {ty : TypeId} {pos : String} {after : Array Edge} {a : Act} {C : Cx} {s : St}
def Cx.still (C : Cx) (ids : List Nat) : Cx := { C with I := fun b => C.I b ∨ ∃ i ∈ ids, C.σ i = b }
theorem zsv (C : Cx) (ids : List Nat) : Tr some C (C.still ids) :=
 ⟨fun b hb => .inl hb, fun b _ => rfl, fun id j hid hj => by cases hj; exact ⟨hid, rfl, fun _ _ h => h⟩⟩
end
end Go.EX


namespace Go.EX
section
variable {num : Names} {P : Program}
variable {ty : TypeId} {pos : String} {after : Array Edge} {a : Act} {C : Cx} {s : St}
theorem zgc {m : Mem} (hm : MRep num C m) {k : Nat} (hk : k ≤ m.length) {id : Nat} {cs : List IV} {mv : Bool} (hid : m[id]? = some (.flat cs mv)) :
  Step num k C m (C.still [id]) (m.set id .dead) := by
 have ht := zsv C [id]
 have hget : ∀ (j : Nat) o', (m.set id .dead)[j]? = some o' → (j = id ∧ o' = .dead) ∨ (j ≠ id ∧ m[j]? = some o') := by
  intro j o' h
  rw [List.getElem?_set] at h
  by_cases hj : id = j
  ·subst hj
   rw [if_pos rfl] at h
   split at h
   ·exact .inl ⟨rfl, (Option.some.inj h).symm⟩
   ·cases h
  ·rw [if_neg hj] at h
   exact .inr ⟨fun e => hj e.symm, h⟩
 have hwas : ∀ (j : Nat) o', (m.set id .dead)[j]? = some o' → o'.live = true → j ≠ id ∧ m[j]? = some o' := by
  intro j o' h hl
  rcases hget j o' h with ⟨_, rfl⟩ | h
  ·cases hl
  ·exact h
 have hown : ∀ b, Own (C.still [id]) (m.set id .dead) b → Own C m b := by
  rintro b ⟨j, o', h, hl, hb⟩
  exact ⟨j, o', (hwas j o' h hl).2, hl, hb⟩
 refine ⟨⟨?_, ?_, ?_, ?_, ?_, ?_⟩, rfl, rfl, rfl, Nat.le_refl _, fun _ _ _ => rfl, fun _ _ _ h => h, fun b hb => .inl hb, ?_, fun b hb => .inr (hown b hb), ?_, ?_⟩
 ·rw [List.length_set]; exact hm.len
 ·intro j o' h
  rcases hget j o' h with ⟨_, rfl⟩ | ⟨_, h⟩
  ·trivial
  ·exact zmw ht rfl (fun _ h => h) (hm.obj j o' h)
 ·intro i j o p hi hj hlo hlp he
  exact hm.inj i j o p (hwas i o hi hlo).2 (hwas j p hj hlp).2 hlo hlp he
 ·rintro b ⟨j, o', h, hl, hb⟩ hI
  obtain ⟨hj, ho⟩ := hwas j o' h hl
  rcases hI with hI | ⟨i, hi, hσ⟩
  ·exact hm.imm b ⟨j, o', ho, hl, hb⟩ hI
  ·rw [List.mem_singleton.1 hi] at hσ
   have := hm.inj1 num id j _ o' hid ho rfl hl rfl (hσ.trans hb.symm)
   exact hj this.symm
 ·rintro b (hI | ⟨i, hi, rfl⟩)
  ·exact hm.bd b hI
  ·rw [List.mem_singleton.1 hi]
   exact hm.lt num ⟨id, _, hid, rfl, rfl⟩
 ·exact num.up hm.glo (fun b hb => .inl hb) (fun _ _ => rfl)
 ·rintro b (hI | ⟨i, hi, rfl⟩)
  ·exact .inl hI
  ·rw [List.mem_singleton.1 hi]
   exact .inr (.inr ⟨id, _, hid, rfl, rfl⟩)
 ·intro i hi o' ho hmv
  rcases hget i o' ho with ⟨_, rfl⟩ | ⟨_, h⟩
  ·cases hmv
  ·exact ⟨o', h, hmv, rfl⟩
 ·rw [List.length_set]; exact hk
theorem zgb {m : Mem} (hm : MRep num C m) {id off sz len : Nat} {cap : Option Nat} {cs : List IV} {mv : Bool} (hid : m[id]? = some (.flat cs mv)) {v : Value} (h : ARep num C (.osl id off sz len cap) v) :
  ARep num (C.still [id]) (.imm (.slice cs off len cap)) v := by
 have ht := zsv C [id]
 cases h with
 | osl _ _ _ _ _ c ad arr0 e0 hid' hl hk' ha hw hs =>
  obtain ⟨arr2, e2, h3, h4⟩ := hm.obj id _ hid
  have hcell : ∀ (p : Nat) x, cs[p]? = some x → C.w.cell? ⟨C.σ id, 0 + p, none⟩ = some (arr2.getD p undef) ∧ IRep C.I C.w x (arr2.getD p undef) := by
   intro p x hx
   obtain ⟨u, hu, hr⟩ := h4 p x hx
   have : arr2.getD p undef = u := by simp [Array.getD_eq_getD_getElem?, hu]
   rw [this]
   exact ⟨by rw [cell_of_row C.w _ _ arr2 e2 _ h3, Nat.zero_add]; exact hu, hr⟩
  refine .imm _ _ (.slice cs off len cap (C.σ id) 0 c ad (fun p => arr2.getD p undef) (.inr ⟨id, List.mem_singleton.2 rfl, rfl⟩) (fun p x hx => (hcell p x hx).1) (fun p x hx => (hcell p x hx).2.mono ht.imm ht.keep) hl.1 hk' (by rw [Nat.zero_add]; exact ha))
theorem zhf (hs : SRep num C s a) {op : Op} {x : Operand} {y : Src} (hop : ∀ dst g, (execOp a.eval ⟨dst, op, ty, pos, after, g⟩).run P C.w = .ok (.value (a.eval x)) C.w) (h : trSrc num x = some y) {r : AV} {s' : St} (he : exIce s (s.env.ev y) = some (r, s')) : Yields num P op ty pos after a C s r s' := by
 have hv := zsp hs h
 unfold exIce at he
 split at he
 ·rename_i z hz
  cases he
  rw [hz] at hv
  exact zwj hs hop hv
 ·rename_i id off sz len cap hz
  rw [hz] at hv
  split at he
  ·rename_i cs mv hid
   cases he
   exact ⟨_, C.still [id], fun dst g => .inl (hop dst g), zgc (k := s.k) hs.mem hs.k hid, hs.env.mono (zsv C [id]), zgb hs.mem hid hv, rfl⟩
  ·cases he
 ·cases he
theorem y_ice (hs : SRep num C s a) {x : Operand} {y : Src} (h : trSrc num x = some y) {r : AV} {s' : St} (he : exIce s (s.env.ev y) = some (r, s')) : Yields num P (.move x) ty pos after a C s r s' := zhf hs (fun _ _ => rfl) h he
theorem y_iceA (hs : SRep num C s a) {x : Operand} {y : Src} (h : trSrc num x = some y) {r : AV} {s' : St} (he : exIce s (s.env.ev y) = some (r, s')) : Yields num P (.assign x) ty pos after a C s r s' := zhf hs (fun _ _ => rfl) h he
theorem zwi (hs : SRep num C s a) {t : TypeId} {p x : Operand} {p' x' : Src} (hk : known P t = true) (hp : trSrc num p = some p') (hx : trSrc num x = some x') {c n : Nat} (hn : n = P.cellsOf t)
  {r : AV} {s' : St} (h : exStoreF s c n (s.env.ev p') (s.env.ev x') = some (r, s')) : Yields num P (.store t p x) ty pos after a C s r s' := by
 unfold exStoreF at h
 split at h
 ·rename_i rid off id o sz len cap e1 e2
  split at h
  ·split at h
   ·rename_i hn1
    cases hst : storeAt s.mem (.optr rid off) [.osl id o sz len cap] with
    | none => rw [hst] at h; cases h
    | some m =>
     rw [hst] at h; cases h
     refine zwh hs hk hp hx (cs := [.osl id o sz len cap]) (by rw [e2]; rfl) (by rw [← hn, hn1]; rfl) ?_
     rw [e1]; exact hst
   ·cases h
  ·split at h
   ·rename_i cs mv hid
    split at h
    ·rename_i hc
     obtain ⟨hn1, hne⟩ := hc
     cases hst : storeAt (s.mem.set id .dead) (.optr rid off) [.imm (.slice cs o len cap)] with
     | none => rw [hst] at h; cases h
     | some m =>
      rw [hst] at h; cases h
      have ht := zsv C [id]
      have f1 := zgc (k := s.k) hs.mem hs.k hid
      have hvx := zsp hs hx
      have hvp := zsp hs hp
      rw [e2] at hvx
      rw [e1] at hvp
      have hv := zgb hs.mem hid hvx
      obtain ⟨i, d, hi, hd, hsz, _⟩ := zim hk
      obtain ⟨hl, ho, hr⟩ := zpw hv (cs := [.imm (.slice cs o len cap)]) rfl
      obtain ⟨b, o', w', hvv, hrun, hst', htr⟩ := zs0 (P := P) f1.rep (hvp.mono ht) (us := (a.eval x).cells.toList) (by simpa using hl)
       (fun u hu => by
        obtain ⟨j, hj⟩ := List.getElem?_of_mem hu
        exact ho j u (by simpa using hj)) (fun j y u hy hu => hr j y u hy (by simpa using hu)) hst (k := s.k) (by rw [List.length_set]; exact hs.k)
      refine ⟨undef, _, fun _ _ => .inr ⟨?_, rfl⟩, f1.trans hst', (hs.env.mono ht).mono htr, .junk _, rfl⟩
      have hsz' : (a.eval x).cells.size = 1 := by
       have := hl
       simp at this
       omega
      have hne : ¬ ((a.eval x).cells.size ≠ i.size) := by simp only [ne_eq, Decidable.not_not]; omega
      simp only [execOp, Instr.storeAt, Sem.run_bind, hvv, Instr.sureAddr, Sem.run_pure, Result.andThen_ok, storeVar, zrd hi]
      rw [if_neg hne]
      have hrun' : (storeCells ⟨b, o', none⟩ (a.eval x).cells.toList).run P C.w = .ok () w' := hrun
      simp [hrun']
    ·cases h
   ·cases h
 ·rename_i rid off y e1 e2
  split at h
  ·rename_i hn1
   cases hst : storeAt s.mem (.optr rid off) [.imm y] with
   | none => rw [hst] at h; cases h
   | some m =>
    rw [hst] at h; cases h
    refine zwh hs hk hp hx (cs := [.imm y]) (by rw [e2]; rfl) (by rw [← hn, hn1]; rfl) ?_
    rw [e1]; exact hst
  ·cases h
 ·cases h
end
end Go.EX


namespace Go.EX
theorem refsL_mem : ∀ {l : List AV} {id : Nat}, id ∈ AV.refs.refsL l ↔ ∃ x ∈ l, id ∈ x.refs
 | [], id => by simp [AV.refs.refsL]
 | x :: r, id => by simp [AV.refs.refsL, refsL_mem (l := r)]
mutual
theorem zpo {f g : Nat → Option Nat} : ∀ (x : AV), (∀ id ∈ x.refs, f id = g id) → x.ren f = x.ren g
 | .imm _, _ => rfl
 | .osl id .., h => by simp only [AV.ren, h id (by simp [AV.refs])]
 | .optr id _, h => by simp only [AV.ren, h id (by simp [AV.refs])]
 | .omap id, h => by simp only [AV.ren, h id (by simp [AV.refs])]
 | .yld id, h => by simp only [AV.ren, h id (by simp [AV.refs])]
 | .seat id _, h => by simp only [AV.ren, h id (by simp [AV.refs])]
 | .tag .., _ => rfl
 | .err, _ => rfl
 | .clo fn caps, h => by simp only [AV.ren, zpg caps h]
 | .agg cells, h => by simp only [AV.ren, zpg cells h]
 | .tup vs, h => by simp only [AV.ren, zpg vs h]
 | .junk, _ => rfl
theorem zpg {f g : Nat → Option Nat} : ∀ (l : List AV), (∀ id ∈ AV.refs.refsL l, f id = g id) → AV.ren.renL f l = AV.ren.renL g l
 | [], _ => rfl
 | x :: r, h => by
  simp only [AV.ren.renL]
  rw [zpo x fun id hid => h id (by simp only [AV.refs.refsL, List.mem_append]; exact .inl hid), zpg r fun id hid => h id (by simp only [AV.refs.refsL, List.mem_append]; exact .inr hid)]
end
theorem ren_id {f : Nat → Option Nat} {x : AV} (h : ∀ id ∈ x.refs, f id = some id) : x.ren f = x := by
 rw [zpo x (g := some) h, zpv]
mutual
theorem zpt {f g : Nat → Option Nat} : ∀ (x : AV), (x.ren g).ren f = x.ren fun i => (g i).bind f
 | .imm _ => rfl
 | .osl id .. => by simp only [AV.ren]; cases g id <;> rfl
 | .optr id _ => by simp only [AV.ren]; cases g id <;> rfl
 | .omap id => by simp only [AV.ren]; cases g id <;> rfl
 | .yld id => by simp only [AV.ren]; cases g id <;> rfl
 | .seat id _ => by simp only [AV.ren]; cases g id <;> rfl
 | .tag .. => rfl
 | .err => rfl
 | .clo fn caps => by simp only [AV.ren, zpm caps]
 | .agg cells => by simp only [AV.ren, zpm cells]
 | .tup vs => by simp only [AV.ren, zpm vs]
 | .junk => rfl
theorem zpm {f g : Nat → Option Nat} : ∀ (l : List AV), AV.ren.renL f (AV.ren.renL g l) = AV.ren.renL (fun i => (g i).bind f) l
 | [] => rfl
 | x :: r => by simp only [AV.ren.renL, zpt x, zpm r]
end
mutual
theorem zps {f : Nat → Option Nat} : ∀ (x : AV) (id : Nat), id ∈ (x.ren f).refs → ∃ i ∈ x.refs, f i = some id
 | .imm _, id, h => by simp [AV.ren, AV.refs] at h
 | .osl i .., id, h => by
  simp only [AV.ren] at h
  cases hf : f i with
  | none => simp [hf, AV.refs] at h
  | some j => simp [hf, AV.refs] at h; exact ⟨i, by simp [AV.refs], by rw [hf, h]⟩
 | .optr i _, id, h => by
  simp only [AV.ren] at h
  cases hf : f i with
  | none => simp [hf, AV.refs] at h
  | some j => simp [hf, AV.refs] at h; exact ⟨i, by simp [AV.refs], by rw [hf, h]⟩
 | .omap i, id, h => by
  simp only [AV.ren] at h
  cases hf : f i with
  | none => simp [hf, AV.refs] at h
  | some j => simp [hf, AV.refs] at h; exact ⟨i, by simp [AV.refs], by rw [hf, h]⟩
 | .yld i, id, h => by
  simp only [AV.ren] at h
  cases hf : f i with
  | none => simp [hf, AV.refs] at h
  | some j => simp [hf, AV.refs] at h; exact ⟨i, by simp [AV.refs], by rw [hf, h]⟩
 | .seat i _, id, h => by
  simp only [AV.ren] at h
  cases hf : f i with
  | none => simp [hf, AV.refs] at h
  | some j => simp [hf, AV.refs] at h; exact ⟨i, by simp [AV.refs], by rw [hf, h]⟩
 | .clo fn caps, id, h => by simp only [AV.ren, AV.refs] at h ⊢; exact zpl caps id h
 | .agg cells, id, h => by simp only [AV.ren, AV.refs] at h ⊢; exact zpl cells id h
 | .tup vs, id, h => by simp only [AV.ren, AV.refs] at h ⊢; exact zpl vs id h
 | .tag .., id, h => by simp [AV.ren, AV.refs] at h
 | .err, id, h => by simp [AV.ren, AV.refs] at h
 | .junk, id, h => by simp [AV.ren, AV.refs] at h
theorem zpl {f : Nat → Option Nat} : ∀ (l : List AV) (id : Nat), id ∈ AV.refs.refsL (AV.ren.renL f l) → ∃ i ∈ AV.refs.refsL l, f i = some id
 | [], id, h => by simp [AV.ren.renL, AV.refs.refsL] at h
 | x :: r, id, h => by
  simp only [AV.ren.renL, AV.refs.refsL, List.mem_append] at h ⊢
  rcases h with h | h
  ·obtain ⟨i, hi, e⟩ := zps x id h; exact ⟨i, .inl hi, e⟩
  ·obtain ⟨i, hi, e⟩ := zpl r id h; exact ⟨i, .inr hi, e⟩
end
theorem env_roots_mem : ∀ {e : Env} {id : Nat}, id ∈ Env.roots e ↔ ∃ p ∈ e, id ∈ p.2.refs
 | [], id => by simp [Env.roots]
 | (k, v) :: r, id => by simp [Env.roots, env_roots_mem (e := r)]
theorem zel {f g : Nat → Option Nat} : ∀ (e : Env), (∀ id ∈ Env.roots e, f id = g id) → Env.ren f e = Env.ren g e
 | [], _ => rfl
 | (k, v) :: r, h => by
  simp only [Env.ren]
  rw [zpo v fun id hid => h id (by simp only [Env.roots, List.mem_append]; exact .inl hid), zel r fun id hid => h id (by simp only [Env.roots, List.mem_append]; exact .inr hid)]
theorem zeq {f g : Nat → Option Nat} : ∀ (e : Env), (e.ren g).ren f = e.ren fun i => (g i).bind f
 | [] => rfl
 | (k, v) :: r => by simp only [Env.ren, zpt v, zeq r]
theorem zep {f : Nat → Option Nat} {e : Env} {id : Nat} (h : id ∈ Env.roots (e.ren f)) : ∃ i ∈ Env.roots e, f i = some id := by
 obtain ⟨q, hq, hid⟩ := env_roots_mem.1 h
 obtain ⟨p, hp, rfl⟩ := zeo hq
 obtain ⟨i, hi, he⟩ := zps p.2 id hid
 exact ⟨i, env_roots_mem.2 ⟨p, hp, hi⟩, he⟩
theorem zmb {f g : Nat → Option Nat} (o : AObj) (h : ∀ id ∈ o.refs, f id = g id) : o.ren f = o.ren g := by
 cases o with
 | flat => rfl
 | rich cs => simp only [AObj.ren]; rw [zpg cs h]
 | map es =>
  simp only [AObj.ren, AObj.map.injEq]
  refine List.map_congr_left fun p hp => ?_
  rw [zpo p.1 fun id hid => h id (by simp only [AObj.refs, List.mem_append]; exact .inl (refsL_mem.2 ⟨p.1, List.mem_map.2 ⟨p, hp, rfl⟩, hid⟩)), zpo p.2 fun id hid => h id (by simp only [AObj.refs, List.mem_append]; exact .inr (refsL_mem.2 ⟨p.2, List.mem_map.2 ⟨p, hp, rfl⟩, hid⟩))]
 | dead => rfl
 | fix => rfl
 | loop env ps as b y => simp only [AObj.ren]; rw [zel env h]
 | text => rfl
 | iter => rfl
theorem zmc {f : Nat → Option Nat} {o : AObj} (h : ∀ id ∈ o.refs, f id = some id) : o.ren f = o := by
 rw [zmb o (g := some) h, zmf]
theorem zme {f g : Nat → Option Nat} (o : AObj) : (o.ren g).ren f = o.ren fun i => (g i).bind f := by
 cases o with
 | flat => rfl
 | rich cs => simp only [AObj.ren, zpm]
 | map es => simp only [AObj.ren, List.map_map, AObj.map.injEq]; exact List.map_congr_left fun p _ => by simp only [Function.comp, zpt]
 | dead => rfl
 | fix => rfl
 | loop env ps as b y => simp only [AObj.ren, zeq]
 | text => rfl
 | iter => rfl
theorem zmd {f : Nat → Option Nat} (o : AObj) (id : Nat) (h : id ∈ (o.ren f).refs) : ∃ i ∈ o.refs, f i = some id := by
 cases o with
 | flat => simp [AObj.ren, AObj.refs] at h
 | rich cs => simp only [AObj.ren, AObj.refs] at h ⊢; exact zpl cs id h
 | map es =>
  simp only [AObj.ren, AObj.refs, List.mem_append] at h ⊢
  rcases h with h | h
  ·obtain ⟨x, hx, hid⟩ := refsL_mem.1 h
   simp only [List.map_map, List.mem_map, Function.comp] at hx
   obtain ⟨p, hp, rfl⟩ := hx
   obtain ⟨i, hi, e⟩ := zps p.1 id hid
   exact ⟨i, .inl (refsL_mem.2 ⟨p.1, List.mem_map.2 ⟨p, hp, rfl⟩, hi⟩), e⟩
  ·obtain ⟨x, hx, hid⟩ := refsL_mem.1 h
   simp only [List.map_map, List.mem_map, Function.comp] at hx
   obtain ⟨p, hp, rfl⟩ := hx
   obtain ⟨i, hi, e⟩ := zps p.2 id hid
   exact ⟨i, .inr (refsL_mem.2 ⟨p.2, List.mem_map.2 ⟨p, hp, rfl⟩, hi⟩), e⟩
 | dead => simp [AObj.ren, AObj.refs] at h
 | fix => simp [AObj.ren, AObj.refs] at h
 | loop env ps as b y => simp only [AObj.ren, AObj.refs] at h ⊢; exact zep h
 | text => simp [AObj.ren, AObj.refs] at h
 | iter => simp [AObj.ren, AObj.refs] at h
theorem zen {f : Nat → Option Nat} (h : ∀ id, f id = some id) : ∀ (e : Env), e.ren f = e
 | [] => rfl
 | (k, v) :: r => by simp only [Env.ren, zen h r, ren_id fun id _ => h id]
theorem zmo (o : AObj) : o.orMoved false = o := zmr o
theorem znv {x : AV} {f : Nat → Option Nat} (h : (x.ren f).plain1 = true) (g : Nat → Option Nat) : x.ren g = x.ren f := by
 cases x with
 | imm v => rfl
 | osl id => simp only [AV.ren] at h; split at h <;> cases h
 | optr id => simp only [AV.ren] at h; split at h <;> cases h
 | omap id => simp only [AV.ren] at h; split at h <;> cases h
 | yld id => simp only [AV.ren] at h; split at h <;> cases h
 | seat id => simp only [AV.ren] at h; split at h <;> cases h
 | _ => first | rfl | cases h
theorem zny {f : Nat → Option Nat} (g : Nat → Option Nat) : ∀ {l : List AV}, (AV.ren.renL f l).all AV.plain1 = true → AV.ren.renL g l = AV.ren.renL f l
 | [], _ => rfl
 | x :: l, h => by
  simp only [AV.ren.renL, List.all_cons, Bool.and_eq_true] at h ⊢
  rw [znv h.1 g, zny g h.2]
theorem znx {x : AV} {f : Nat → Option Nat} (h : (x.ren f).plain2 = true) (g : Nat → Option Nat) : x.ren g = x.ren f := by
 cases x with
 | agg cs => simp only [AV.ren, AV.plain2] at h ⊢; rw [zny g h]
 | imm v => rfl
 | osl id => simp only [AV.ren] at h; split at h <;> cases h
 | optr id => simp only [AV.ren] at h; split at h <;> cases h
 | omap id => simp only [AV.ren] at h; split at h <;> cases h
 | yld id => simp only [AV.ren] at h; split at h <;> cases h
 | seat id => simp only [AV.ren] at h; split at h <;> cases h
 | _ => first | rfl | cases h
theorem znz {f : Nat → Option Nat} (g : Nat → Option Nat) : ∀ {l : List AV}, (AV.ren.renL f l).all AV.plain2 = true → AV.ren.renL g l = AV.ren.renL f l
 | [], _ => rfl
 | x :: l, h => by
  simp only [AV.ren.renL, List.all_cons, Bool.and_eq_true] at h ⊢
  rw [znx h.1 g, znz g h.2]
theorem zn1 {x : AV} {f : Nat → Option Nat} (h : (x.ren f).plain = true) (g : Nat → Option Nat) : x.ren g = x.ren f := by
 cases x with
 | tup cs => simp only [AV.ren, AV.plain] at h ⊢; rw [znz g h]
 | agg cs => exact znx (by simpa only [AV.ren, AV.plain] using h) g
 | imm v => rfl
 | osl id => simp only [AV.ren] at h; split at h <;> cases h
 | optr id => simp only [AV.ren] at h; split at h <;> cases h
 | omap id => simp only [AV.ren] at h; split at h <;> cases h
 | yld id => simp only [AV.ren] at h; split at h <;> cases h
 | seat id => simp only [AV.ren] at h; split at h <;> cases h
 | _ => first | rfl | cases h
theorem zn2 {x : AV} (h : x.plain = true) (g : Nat → Option Nat) : x.ren g = x := by
 have := zn1 (x := x) (f := some) (by rw [zpv]; exact h) g
 rwa [zpv] at this
theorem znf {call : Calls'} {s : St} {fn : Nat} {args : List AV} {r : AV} {s' : St} (h : exPeek call s fn args = some (r, s')) : s' = s ∧ r.plain = true ∧ exShare call s fn args = some (r, s) := by
 unfold exPeek at h
 unfold exShare
 dsimp only at h ⊢
 obtain ⟨hnd, hlt, _⟩ := zmu (k := 0) (roots := AV.refs.refsL args) (m := s.mem) (Nat.zero_le _)
 generalize order 0 (AV.refs.refsL args) s.mem = l at *
 cases hc : call fn (AV.ren.renL (place l) args) (s.mem.pickAll l) with
 | none => simp [hc] at h
 | some rm =>
  obtain ⟨rv, mc⟩ := rm
  simp only [hc] at h ⊢
  split at h
  case isFalse => cases h
  rename_i hq
  obtain ⟨rfl, hp, hall⟩ := hq
  simp only [Option.some.injEq, Prod.mk.injEq] at h
  obtain ⟨rfl, rfl⟩ := h
  refine ⟨rfl, hp, ?_⟩
  have hpl : (s.mem.pickAll l).length = l.length := by simp [Mem.pickAll]
  have hget : ∀ (i id : Nat), l[i]? = some id → (s.mem.pickAll l)[i]? = some (((s.mem[id]?).getD .dead).ren (place l)) := by
   intro i id hi; simp [Mem.pickAll, hi]
  have hok : ∀ id ∈ l, ((s.mem[id]?).getD .dead).moved = false ∧ ∀ j ∈ ((s.mem[id]?).getD .dead).refs, j ∈ l := by
   intro id hid
   have := List.all_eq_true.1 hall id hid
   simp only [Bool.and_eq_true, Bool.not_eq_true', List.all_eq_true, List.contains_iff_mem] at this
   exact this.2
  have hsok : shareOk s.mem l = true := by
   simp only [shareOk, Bool.or_eq_true]
   left
   rw [List.all_eq_true] at hall ⊢
   intro id hid
   have := hall id hid
   simp only [Bool.and_eq_true] at this
   exact this.1
  rw [if_neg (by rw [hsok]; decide)]
  have hstay : ∀ id, (match place l id with
   | some i => if (((s.mem.pickAll l)[i]?).getD .dead).moved then none else some id
   | none => some id) = some id := by
   intro id
   cases hpi : place l id with
   | none => rfl
   | some i =>
    have hi := znq l id i hpi
    simp only [hget i id hi, Option.getD_some]
    have hm := (hok id (List.mem_of_getElem? hi)).1
    have : (((s.mem[id]?).getD .dead).ren (place l)).moved = false := by rw [← hm]; cases (s.mem[id]?).getD .dead <;> rfl
    simp [this]
  rw [zn2 hp]
  have hmem : ∀ back stay : Nat → Option Nat, (∀ i, i < l.length → back i = l[i]?) → (∀ id, stay id = some id) → (List.range (s.mem.length + ((s.mem.pickAll l).length - l.length))).map (shareAt s l (s.mem.pickAll l) back stay) = s.mem := by
   intro back stay hback hst
   rw [hpl, Nat.sub_self, Nat.add_zero]
   apply List.ext_getElem?
   intro id
   rcases Nat.lt_or_ge id s.mem.length with hlt' | hge
   ·rw [List.getElem?_map, List.getElem?_range hlt', List.getElem?_eq_getElem hlt']
    simp only [Option.map_some, Option.some.injEq]
    unfold shareAt
    have hg : (s.mem[id]?).getD .dead = s.mem[id] := by rw [List.getElem?_eq_getElem hlt']; rfl
    cases hpi : place l id with
    | none =>
     simp only [hlt', if_true, hg]
     exact zmc fun j _ => hst j
    | some i =>
     have hi := znq l id i hpi
     obtain ⟨hm, hcl⟩ := hok id (List.mem_of_getElem? hi)
     simp only [hget i id hi, Option.getD_some, hg] at hm hcl ⊢
     rw [hm, zmo, zme]
     refine zmc fun j hj => ?_
     have hjl := hcl j hj
     cases hpj : place l j with
     | none =>
      obtain ⟨q, hq⟩ := List.getElem?_of_mem hjl
      rw [zns l j q hnd hq] at hpj; cases hpj
     | some q =>
      have hq := znq l j q hpj
      simp only [Option.bind_some]
      rw [hback q (List.getElem?_eq_some_iff.1 hq).1, hq]
   ·rw [List.getElem?_eq_none (by simpa using hge), List.getElem?_eq_none hge]
  refine congrArg (fun u : St => some (rv, u)) (?_ : St.mk s.k _ _ = St.mk s.k s.env s.mem)
  rw [St.mk.injEq]
  exact ⟨rfl, zen hstay _, hmem _ _ (fun i hi => if_pos hi) hstay⟩
theorem zjs {call : Calls'} {s : St} {fn : Nat} {args : List AV} {r : AV} {s' : St} (h : exLook call s fn args = some (r, s')) : exShare call s fn args = some (r, s') := by
 unfold exLook at h
 unfold exShare
 dsimp only at h ⊢
 obtain ⟨hnd, hlt, _⟩ := zmu (k := 0) (roots := AV.refs.refsL args) (m := s.mem) (Nat.zero_le _)
 generalize order 0 (AV.refs.refsL args) s.mem = l at *
 cases hc : call fn (AV.ren.renL (place l) args) (s.mem.pickAll l) with
 | none => simp [hc] at h
 | some rm =>
  obtain ⟨rv, mc⟩ := rm
  simp only [hc] at h ⊢
  split at h
  case isFalse => cases h
  rename_i hq
  obtain ⟨hmc, hall⟩ := hq
  rw [Bool.and_eq_true] at hall
  replace hall := hall.1
  simp only [Option.some.injEq, Prod.mk.injEq] at h
  obtain ⟨rfl, rfl⟩ := h
  have hpl : (s.mem.pickAll l).length = l.length := by simp [Mem.pickAll]
  have hml : l.length ≤ mc.length := by
   have := congrArg List.length hmc
   rw [List.length_take, hpl] at this
   omega
  have hget : ∀ (i id : Nat), l[i]? = some id → mc[i]? = some (((s.mem[id]?).getD .dead).ren (place l)) := by
   intro i id hi
   have hil := (List.getElem?_eq_some_iff.1 hi).1
   have h1 : (mc.take l.length)[i]? = mc[i]? := by rw [List.getElem?_take, if_pos hil]
   rw [← h1, hmc]
   simp [Mem.pickAll, hi]
  have hok : ∀ id ∈ l, ((s.mem[id]?).getD .dead).moved = false ∧ ∀ j ∈ ((s.mem[id]?).getD .dead).refs, j ∈ l := by
   intro id hid
   have := List.all_eq_true.1 hall id hid
   simp only [Bool.and_eq_true, Bool.not_eq_true', List.all_eq_true, List.contains_iff_mem] at this
   exact this.2
  have hsok : shareOk s.mem l = true := by
   simp only [shareOk, Bool.or_eq_true]
   left
   rw [List.all_eq_true] at hall ⊢
   intro id hid
   have := hall id hid
   simp only [Bool.and_eq_true] at this
   exact this.1
  rw [if_neg (by rw [hsok]; decide)]
  have hstay : ∀ id, (match place l id with
   | some i => if ((mc[i]?).getD .dead).moved then none else some id
   | none => some id) = some id := by
   intro id
   cases hpi : place l id with
   | none => rfl
   | some i =>
    have hi := znq l id i hpi
    simp only [hget i id hi, Option.getD_some]
    have hm := (hok id (List.mem_of_getElem? hi)).1
    have : (((s.mem[id]?).getD .dead).ren (place l)).moved = false := by rw [← hm]; cases (s.mem[id]?).getD .dead <;> rfl
    simp [this]
  have hmem : ∀ back stay : Nat → Option Nat, (∀ i, i < l.length → back i = l[i]?) → (∀ id, stay id = some id) → (List.range (s.mem.length + (mc.length - l.length))).map (shareAt s l mc back stay) = s.mem ++ (mc.drop l.length).map (AObj.ren back) := by
   intro back stay hback hst
   apply List.ext_getElem?
   intro id
   rcases Nat.lt_or_ge id s.mem.length with hlt' | hge
   ·rw [List.getElem?_map, List.getElem?_range (by omega), List.getElem?_append_left hlt', List.getElem?_eq_getElem hlt']
    simp only [Option.map_some, Option.some.injEq]
    unfold shareAt
    have hg : (s.mem[id]?).getD .dead = s.mem[id] := by rw [List.getElem?_eq_getElem hlt']; rfl
    cases hpi : place l id with
    | none =>
     simp only [hlt', if_true, hg]
     exact zmc fun j _ => hst j
    | some i =>
     have hi := znq l id i hpi
     obtain ⟨hm, hcl⟩ := hok id (List.mem_of_getElem? hi)
     simp only [hget i id hi, Option.getD_some, hg] at hm hcl ⊢
     rw [hm, zmo, zme]
     refine zmc fun j hj => ?_
     have hjl := hcl j hj
     cases hpj : place l j with
     | none =>
      obtain ⟨q, hq⟩ := List.getElem?_of_mem hjl
      rw [zns l j q hnd hq] at hpj; cases hpj
     | some q =>
      have hq := znq l j q hpj
      simp only [Option.bind_some]
      rw [hback q (List.getElem?_eq_some_iff.1 hq).1, hq]
   ·rcases Nat.lt_or_ge id (s.mem.length + (mc.length - l.length)) with hlt' | hge'
    ·have hnone : place l id = none := znr fun hmem => by have := hlt _ hmem; omega
     rw [List.getElem?_map, List.getElem?_range hlt', List.getElem?_append_right hge, List.getElem?_map, List.getElem?_drop]
     have hi : l.length + (id - s.mem.length) < mc.length := by omega
     simp only [Option.map_some, List.getElem?_eq_getElem hi, Option.some.injEq]
     unfold shareAt
     simp only [hnone, if_neg (Nat.not_lt.2 hge), List.getElem?_eq_getElem hi, Option.getD_some]
    ·rw [List.getElem?_eq_none (by simpa using hge'), List.getElem?_eq_none (by simp; omega)]
  refine congrArg (fun u : St => some (rv.ren _, u)) (?_ : St.mk s.k _ _ = St.mk s.k s.env _)
  rw [St.mk.injEq]
  exact ⟨rfl, zen hstay _, hmem _ _ (fun i hi => if_pos hi) hstay⟩
end Go.EX


namespace Go.EX
section
variable {num : Names} {P : Program}
variable {ty : TypeId} {pos : String} {after : Array Edge} {a : Act} {C : Cx} {s : St}
theorem zdj {α : Type} (l : List α) (n : Nat) (h : l.length = n) : cut l 0 n = some l := by
 subst h
 simp [cut]
end
end Go.EX


namespace Go.EX
section
variable {num : Names} {P : Program}
variable {ty : TypeId} {pos : String} {after : Array Edge} {a : Act} {C : Cx} {s : St}
theorem ztl {m : Mem} (hm : MRep num C m) {id : Nat} {cs : List IV} (ho : m[id]? = some (.text cs)) : MRep num C (m.set id (.flat cs false)) := by
 have hid : id < m.length := (List.getElem?_eq_some_iff.1 ho).1
 have split : ∀ (i : Nat) p, (m.set id (.flat cs false))[i]? = some p → (i = id ∧ p = .flat cs false) ∨ (i ≠ id ∧ m[i]? = some p) := by
  intro i p hp
  rw [zr1] at hp
  split at hp
  ·rename_i h; exact .inl ⟨h.1.symm, (Option.some.inj hp).symm⟩
  ·rename_i h; exact .inr ⟨fun e => h ⟨e.symm, by rw [e]; exact hid⟩, hp⟩
 have own : ∀ b, Own C (m.set id (.flat cs false)) b → Own C m b := by
  rintro b ⟨i, p, hp, hl, hb⟩
  rcases split i p hp with ⟨rfl, rfl⟩ | ⟨_, hp'⟩
  ·exact ⟨i, _, ho, rfl, hb⟩
  ·exact ⟨i, p, hp', hl, hb⟩
 refine ⟨by simpa using hm.len, fun i p hp => ?_, fun i j p q hp hq h1 h2 he => ?_, fun b hb => hm.imm b (own b hb), hm.bd, hm.glo⟩
 ·rcases split i p hp with ⟨rfl, rfl⟩ | ⟨_, hp'⟩
  ·obtain ⟨arr, e, h1, _, h2⟩ := hm.obj i _ ho
   exact ⟨arr, e, h1, h2⟩
  ·exact hm.obj i p hp'
 ·rcases split i p hp with ⟨rfl, rfl⟩ | ⟨hi, hp'⟩ <;> rcases split j q hq with ⟨rfl, rfl⟩ | ⟨hj, hq'⟩
  ·exact .inl rfl
  ·rcases hm.inj _ j _ q ho hq' rfl h2 he with h | h
   ·exact .inl h
   ·cases q <;> cases h
  ·rcases hm.inj i _ p _ hp' ho h1 rfl he with h | h
   ·exact .inl h
   ·cases p <;> cases h
  ·exact hm.inj i j p q hp' hq' h1 h2 he
theorem ztm {D : Cx} (ht : Tr some C D) {olds us : Array Value} {ol nl : List IV} (ho : ∀ (j : Nat) x, ol[j]? = some x → ∃ u : Value, olds[j]? = some u ∧ IRep C.I C.w x u) (hol : ol.length = olds.size)
  (hn : ∀ (j : Nat) x, nl[j]? = some x → ∃ u : Value, us[j]? = some u ∧ IRep C.I C.w x u) {arr : Array Value} (h1 : ∀ j : Nat, j < olds.size → arr[j]? = olds[j]?) (h2 : ∀ j : Nat, j < us.size → arr[olds.size + j]? = us[j]?) :
  ∀ (j : Nat) x, (ol ++ nl)[j]? = some x → ∃ u : Value, arr[j]? = some u ∧ IRep D.I D.w x u := by
 intro j x hx
 rcases Nat.lt_or_ge j ol.length with h | h
 ·rw [List.getElem?_append_left h] at hx
  obtain ⟨u, hu, hr⟩ := ho j x hx
  exact ⟨u, by rw [h1 j (by omega)]; exact hu, hr.mono ht.imm ht.keep⟩
 ·rw [List.getElem?_append_right h] at hx
  obtain ⟨u, hu, hr⟩ := hn _ x hx
  have hj := (Array.getElem?_eq_some_iff.1 hu).1
  refine ⟨u, ?_, hr.mono ht.imm ht.keep⟩
  have := h2 (j - ol.length) hj
  rw [← hol] at this
  have e : ol.length + (j - ol.length) = j := by omega
  rw [e] at this
  rw [this]; exact hu
theorem zvu (hU : ∀ e, isU8 P e = true → P.cellsOf e = 1 → num.U e) (hs : SRep num C s a) {t u e : TypeId} {d : TypeDesc} {x y : Operand} {x' y' : Src} (ht : P.underlying t = some (.slice e)) (hu : P.underlying u = some d) (hd : notIntD d = true) (hk : known P e = true) (h0 : 0 < P.cellsOf e) (hb0 : 0 < P.bytesOf e)
  (hz : zeroOk P e = true) (hc1 : P.cellsOf e = 1) (hb1 : P.bytesOf e = 1) (hu8 : isU8 P e = true) (hx : trSrc num x = some x') (hy : trSrc num y = some y') {r : AV} {s' : St} (h : exAppendS s (s.env.ev x') (s.env.ev y') = some (r, s')) :
  Yields num P (.call { callee := .builtin .append, args := #[x, y], argTypes := #[t, u] }) ty pos after a C s r s' := by
 obtain ⟨i, dd, hi, _, hsz, hby⟩ := zim hk
 obtain ⟨z, hzi, hzs⟩ : ∃ z, i.zero = some z ∧ z.cells.size = P.cellsOf e := by
  unfold zeroOk zeroCellsOf at hz
  rw [hi] at hz
  cases hq : i.zero with
  | none => simp [hq] at hz
  | some z => simp [hq] at hz; exact ⟨z, rfl, hz⟩
 have hm := hs.mem
 have hlen := hm.len
 have hue := hU e hu8 hc1
 unfold exAppendS at h
 cases hel : elems s.mem 1 (s.env.ev y') with
 | none => simp [hel] at h
 | some nn =>
  obtain ⟨n, news⟩ := nn
  simp only [hel] at h
  have hax := zsp hs hx
  split at h
  ·rename_i heq
   by_cases hn0 : n = 0
   ·rw [if_pos hn0] at h
    cases h
    have h9 : exAppend s (P.cellsOf e) (P.bytesOf e) (s.env.ev x') (s.env.ev y') = some (s.env.ev x', s) := by
     unfold exAppend
     rw [hc1, hel, heq]
     simp [hn0]
    rw [heq] at h9
    exact zvs hs ht hu hd hk h0 hb0 hz hx hy (by rw [heq]; exact h9)
   ·rw [if_neg hn0] at h
    obtain ⟨us, hg⟩ := zgz (P := P) hm (zsp hs hy) hel
    have hexec : ∀ (b : Option Addr) (l c : Nat) (v : Value) (w' : World), a.eval x = .slice b l c → (Builtin.append_ #[t, u] ty #[.slice b l c, a.eval y]).run P C.w = .ok v w' →
      ∀ dst g, (execOp a.eval ⟨dst, .call { callee := .builtin .append, args := #[x, y], argTypes := #[t, u] }, ty, pos, after, g⟩).run P C.w = .ok (.value v) w' := by
     intro b l c v w' hb hr dst g
     simp [execOp, resolve, invoke, builtin, hb, hr]
    have hxv : a.eval x = .slice none 0 0 := by rw [heq] at hax; exact zpy hax
    split at h
    ·rename_i hbd
     simp only [fresh, Option.some.injEq, Prod.mk.injEq] at h
     obtain ⟨rfl, rfl⟩ := h
     have hr := zqw (P := P) (ty := ty) ht hu hd hi hzi C.w none 0 0 n (a.eval y) #[] us (hg.len _) (by rw [← hsz, hc1]; exact hg.cells _ rfl) rfl (by omega) (by rw [← hby, hb1, Nat.zero_add, Nat.mul_one]; exact hbd) (by rw [← hby]; exact hb0)
     generalize hrest : Builtin.zeroCells z.cells (grownCap C.w (0 + n) 0 e - (0 + n)) = rest at hr
     have htr := zk3 (w1 := C.w.drew) hm rfl (.cells (#[] ++ us ++ rest) e (0, 0))
     refine ⟨_, C.more C.w.drew (.cells (#[] ++ us ++ rest) e (0, 0)), fun dst g => .inl (hexec none 0 0 _ _ hxv hr dst g), zk2 (w1 := C.w.drew) hm rfl rfl rfl rfl _ _ ?_ hs.k, hs.env.mono htr, ?_, rfl⟩
     ·refine ⟨#[] ++ us ++ rest, e, ?_, hue, ?_⟩
      ·simp only [Cx.more, if_true]
       rw [zal, if_pos (show C.w.heap.size = C.w.drew.heap.size from rfl)]
      ·intro j x hx
       obtain ⟨u, hu, hr'⟩ := hg.rep j x hx
       have hj := (Array.getElem?_eq_some_iff.1 hu).1
       refine ⟨u, ?_, hr'.mono htr.imm htr.keep⟩
       rw [Array.getElem?_append_left (by simp; exact hj)]
       simpa using hu
     ·have hge := grownCap_ge C.w (0 + n) 0 e
      rw [hlen]
      rw [Nat.zero_add] at hge ⊢
      refine zk1 (w1 := C.w.drew) rfl _ e (zg4 (b := 1) (by rw [Nat.mul_one]; assumption) (by omega)) (fun k hk => by cases hk) (.inr ?_)
      have hrs : rest.size = (grownCap C.w (0 + n) 0 e - (0 + n)) * P.cellsOf e := by rw [← hrest, zwk, hzs]
      rw [Nat.zero_add, hc1] at hrs
      rw [Array.size_append, Array.size_append, hg.size, hrs]
      simp only [List.size_toArray, List.length_nil, Nat.zero_add]
      rw [← Nat.add_mul]
      exact Nat.le_of_eq (by congr 1; omega)
    ·cases h
  ·rename_i id l heq
   split at h
   ·rename_i cs ho
    split at h
    ·rename_i hcond
     obtain ⟨hcl, hl0, hbd⟩ := hcond
     simp only [Option.some.injEq, Prod.mk.injEq] at h
     obtain ⟨rfl, rfl⟩ := h
     obtain ⟨us, hg⟩ := zgz (P := P) hm (zsp hs hy) hel
     have hexec : ∀ (b : Option Addr) (l c : Nat) (v : Value) (w' : World), a.eval x = .slice b l c → (Builtin.append_ #[t, u] ty #[.slice b l c, a.eval y]).run P C.w = .ok v w' →
       ∀ dst g, (execOp a.eval ⟨dst, .call { callee := .builtin .append, args := #[x, y], argTypes := #[t, u] }, ty, pos, after, g⟩).run P C.w = .ok (.value v) w' := by
      intro b l c v w' hb hr dst g
      simp [execOp, resolve, invoke, builtin, hb, hr]
     have hax0 := hax
     rw [heq] at hax0
     have hid : id < s.mem.length := (List.getElem?_eq_some_iff.1 ho).1
     have hol : elems (s.mem.set id (.flat cs false)) 1 (.osl id 0 1 l none) = some (l, cs) := by
      have hq : (s.mem.set id (.flat cs false))[id]? = some (.flat cs false) := by rw [zr1, if_pos ⟨rfl, hid⟩]
      simp only [elems, hq, Nat.mul_one, zdj cs l hcl, Option.map_some]
     obtain ⟨olds, hg2⟩ := zgz (P := P) (ztl hm ho) hax0 hol
     obtain ⟨a2, e2, hw2, hue2, hcells2⟩ := hm.obj id _ ho
     have hlo : (AObj.text cs).live = true := rfl
     have hof : (AObj.text cs).isFix = false := rfl
     rw [heq] at hax
     generalize hxv : a.eval x = v at hax hg2
     cases hax with
     | osl _ _ _ _ _ c' ad arr e' hid' hl hk' ha hw hss =>
      obtain ⟨arr, fz0, hw, rfl⟩ := hw
      rw [hw] at hw2
      obtain ⟨rfl, rfl, rfl⟩ : arr = a2 ∧ e' = e2 ∧ fz0 = (0, 0) := by simpa using hw2
      rcases Nat.lt_or_ge c' (l + n) with hgt | hroom
      ·
       have hr := zqw (P := P) (ty := ty) ht hu hd hi hzi C.w (some ⟨C.σ id, ad, none⟩) l c' n (a.eval y) olds us (hg.len _) (by rw [← hsz, hc1]; exact hg.cells _ rfl) (by rw [← hsz, hc1]; exact hg2.cells _ rfl) hgt (by rw [← hby, hb1, Nat.mul_one]; exact hbd) (by rw [← hby]; exact hb0)
       generalize hrest : Builtin.zeroCells z.cells (grownCap C.w (l + n) c' e - (l + n)) = rest at hr
       have hlt : C.σ id < C.w.heap.size := (Array.getElem?_eq_some_iff.1 hw).1
       have hwk : ∀ b, b < C.w.heap.size → (C.w.drew.alloc (.cells (olds ++ us ++ rest) e)).heap[b]? = C.w.heap[b]? := by
        intro b hb
        rw [zal, if_neg (show ¬ b = C.w.drew.heap.size by show ¬ b = C.w.heap.size; omega)]
        rfl
       have hnew : (C.w.drew.alloc (.cells (olds ++ us ++ rest) e)).heap[C.w.heap.size]? = some (.cells (olds ++ us ++ rest) e (0, 0)) := by
        rw [zal, if_pos (show C.w.heap.size = C.w.drew.heap.size from rfl)]
       have hsz3 : ∀ n9 e9, RowAt C.w (C.σ id) n9 e9 → RowAt (C.w.drew.alloc (.cells (olds ++ us ++ rest) e)) (C.σ id) n9 e9 := fun _ _ h => h.same (hwk _ hlt)
       have htr := zcm (nb := C.w.heap.size) hm ho hlo (w' := C.w.drew.alloc (.cells (olds ++ us ++ rest) e)) (fun b hb _ => hwk b hb) hsz3
       refine ⟨_, C.claim C.w.heap.size (C.w.drew.alloc (.cells (olds ++ us ++ rest) e)), fun dst g => .inl (hexec _ l c' _ _ hxv hr dst g), zcl (w' := C.w.drew.alloc (.cells (olds ++ us ++ rest) e)) hm ho hlo (.inr (Nat.le_refl _)) rfl rfl rfl (by rw [World.size_alloc]; exact Nat.le_succ C.w.heap.size) (fun b hb _ => hwk b hb) hsz3 ?_ hs.k hof, hs.env.mono htr, ?_, rfl⟩
       ·refine ⟨olds ++ us ++ rest, e, by simp only [Cx.claim, if_true]; exact hnew, hue, ztm htr hg2.rep (by rw [hg2.count, hg2.size]) hg.rep (fun j hj => ?_) (fun j hj => ?_)⟩
        ·rw [Array.append_assoc, Array.getElem?_append_left hj]
        ·rw [Array.append_assoc, Array.getElem?_append_right (by omega), Array.getElem?_append_left (by omega)]
         congr 1; omega
       ·have hrs : rest.size = (grownCap C.w (l + n) c' e - (l + n)) * P.cellsOf e := by rw [← hrest, zwk, hzs]
        have hge := grownCap_ge C.w (l + n) c' e
        have hσn : (C.claim C.w.heap.size (C.w.drew.alloc (.cells (olds ++ us ++ rest) e))).σ C.n = C.w.heap.size := by simp [Cx.claim]
        rw [hlen]
        conv => arg 4; rw [← hσn]
        refine .osl0 C.n 0 _ _ none _ 0 _ e (by simp [Cx.claim]) (zg4 (b := 1) (by rw [Nat.mul_one]; assumption) (by omega)) (fun k hk => by cases hk) (.inl rfl) (by rw [hσn]; exact hnew) (.inr ?_)
        rw [Array.size_append, Array.size_append, hg2.size, hg.size, hrs, hc1, ← Nat.add_mul, ← Nat.add_mul, Nat.zero_add]
        exact Nat.le_of_eq (by congr 1; omega)
      ·
       have hus : us.toList.length = n * 1 := by rw [Array.length_toList, hg.size]
       have hc0 : c' ≠ 0 := by omega
       rcases ha with rfl | h00
       ·have hfit : l * 1 + us.toList.length ≤ arr.size := by
         rw [hus, ← Nat.add_mul]
         rcases hss with h0 | h0
         ·omega
         ·omega
        have hone : ∀ u ∈ us.toList, u.oneCell' = true := zg0 hg
        have hst := run_storeCells_at P (C.σ id) (l * 1) e' us.toList 0 arr C.w hw (by rw [Nat.add_zero]; exact hfit) hone
        simp only [Nat.add_zero] at hst
        have hr := zqx (P := P) (ty := ty) ht hu hd hi C.w (some ⟨C.σ id, 0, none⟩) l c' n (a.eval y) us (hg.len _) (by rw [← hsz, hc1]; exact hg.cells _ rfl) hroom
         (fun ad' had => by cases had; rw [zai, ← hsz, hc1, Nat.zero_add]; exact hst) (fun h => by cases h)
        have hsp := zsn arr (l * 1) us.toList hfit
        generalize hnr : (arr.toList.take (l * 1) ++ us.toList ++ arr.toList.drop (l * 1 + us.toList.length)).toArray = narr at hr hsp hst
        have hwk : ∀ b, b < C.w.heap.size → b ≠ C.σ id → (C.w.setRow (C.σ id) narr).heap[b]? = C.w.heap[b]? := by
         intro b _ hb
         rw [zr0 _ _ _ _ _ hw, if_neg hb]
        have hws : (C.w.setRow (C.σ id) narr).heap[C.σ id]? = some (.cells narr e' (0, 0)) := by
         rw [zr0 _ _ _ _ _ hw, if_pos rfl]
        have hsz3 : ∀ n9 e9, RowAt C.w (C.σ id) n9 e9 → RowAt (C.w.setRow (C.σ id) narr) (C.σ id) n9 e9 := by
         intro n0 e0 h0'
         exact h0'.put hw hws hsp
        have htr := zcm (nb := C.σ id) hm ho hlo (w' := C.w.setRow (C.σ id) narr) hwk hsz3
        have hσn : (C.claim (C.σ id) (C.w.setRow (C.σ id) narr)).σ C.n = C.σ id := by simp [Cx.claim]
        have holds : ∀ j : Nat, j < olds.size → arr[j]? = olds[j]? := by
         intro j hj
         obtain ⟨u, hu⟩ : ∃ u, olds[j]? = some u := ⟨_, Array.getElem?_eq_getElem hj⟩
         have h3 := hg2.cells C.w rfl
         simp only [Builtin.firstCells] at h3
         rw [hu]
         have hl2 : l * 1 ≤ arr.size := by omega
         have h4 := run_loadCells (P := P) C.w ⟨C.σ id, 0, none⟩ (l * 1) (fun j => arr.getD j undef) (fun j hj => by
          rw [zai, cell_of_row C.w _ _ arr e' _ hw]
          have : 0 + j < arr.size := by omega
          simp [Array.getD, this, show j < arr.size by omega])
         rw [h4] at h3
         simp only [Result.ok.injEq] at h3
         have h5 := h3.1
         rw [← h5] at hu
         have hj2 : j < l * 1 := by rw [← hg2.size]; exact hj
         have hja : j < arr.size := by omega
         have hj3 : j < l := by omega
         simp [hj3] at hu
         simp [Array.getD, hja] at hu
         rw [Array.getElem?_eq_getElem hja, hu]
        refine ⟨_, C.claim (C.σ id) (C.w.setRow (C.σ id) narr), fun dst g => .inl (hexec _ l c' _ _ hxv hr dst g), zcl (w' := C.w.setRow (C.σ id) narr) hm ho hlo (.inl rfl) rfl rfl rfl (by rw [size_setRow]; exact Nat.le_refl _) hwk hsz3 ?_ hs.k hof, hs.env.mono htr, ?_, rfl⟩
        ·refine ⟨narr, e', by simp only [Cx.claim, if_true]; exact hws, hue2, ztm htr hg2.rep (by rw [hg2.count, hg2.size]) hg.rep (fun j hj => ?_) (fun j hj => ?_)⟩
         ·rw [← hnr, zsm arr _ us.toList hfit, if_neg (by rw [← hg2.size]; omega)]
          exact holds j hj
         ·rw [← hnr, zsm arr _ us.toList hfit, if_pos (by rw [hg2.size, hus, ← hg.size]; omega), Array.getElem?_toList]
          congr 1; rw [hg2.size]; omega
        ·rw [hlen]
         conv => arg 4; rw [← hσn]
         exact .osl0 C.n 0 _ _ none c' 0 _ e' (by simp [Cx.claim]) (by omega) (fun k hk => by cases hk) (.inl rfl) (by rw [hσn]; exact hws) (by rw [hsp]; exact hss)
       ·omega
    ·cases h
   ·cases h
  ·cases h
end
end Go.EX

