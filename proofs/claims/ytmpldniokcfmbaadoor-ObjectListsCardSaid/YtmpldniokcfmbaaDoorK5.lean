import Derived.Test.YtmpldniokcfmbaaDoorK4
import Derived.Test.YtmpldniokcfmbaaDoorK3
import Derived.Laws.BytesString
import Derived.Lib.ConvBytes
import Derived.LoopN
import Derived.StillTail
import Derived.OrdersIn
import Derived.TacticsIn
import Derived.OwnWalkIn
set_option linter.unusedVariables false
set_option linter.unusedSimpArgs false
namespace Go.EX
theorem refsL_mem : ∀ {l : List AV} {id : Nat}, id ∈ AV.refs.refsL l ↔ ∃ x ∈ l, id ∈ x.refs
 | [], id => by simp [AV.refs.refsL]
 | x :: r, id => by simp [AV.refs.refsL, refsL_mem (l := r)]
mutual
theorem zmo {f g : Nat → Option Nat} : ∀ (x : AV), (∀ id ∈ x.refs, f id = g id) → x.ren f = x.ren g
 | .imm _, _ => rfl
 | .osl id .., h => by simp only [AV.ren, h id (by simp [AV.refs])]
 | .optr id _, h => by simp only [AV.ren, h id (by simp [AV.refs])]
 | .omap id, h => by simp only [AV.ren, h id (by simp [AV.refs])]
 | .yld id, h => by simp only [AV.ren, h id (by simp [AV.refs])]
 | .seat id _, h => by simp only [AV.ren, h id (by simp [AV.refs])]
 | .tag .., _ => rfl
 | .err, _ => rfl
 | .clo fn caps, h => by simp only [AV.ren, zmg caps h]
 | .agg cells, h => by simp only [AV.ren, zmg cells h]
 | .tup vs, h => by simp only [AV.ren, zmg vs h]
 | .junk, _ => rfl
theorem zmg {f g : Nat → Option Nat} : ∀ (l : List AV), (∀ id ∈ AV.refs.refsL l, f id = g id) → AV.ren.renL f l = AV.ren.renL g l
 | [], _ => rfl
 | x :: r, h => by
  simp only [AV.ren.renL]
  rw [zmo x fun id hid => h id (by simp only [AV.refs.refsL, List.mem_append]; exact .inl hid), zmg r fun id hid => h id (by simp only [AV.refs.refsL, List.mem_append]; exact .inr hid)]
end
theorem ren_id {f : Nat → Option Nat} {x : AV} (h : ∀ id ∈ x.refs, f id = some id) : x.ren f = x := by
 rw [zmo x (g := some) h, zmu]
mutual
theorem zmt {f g : Nat → Option Nat} : ∀ (x : AV), (x.ren g).ren f = x.ren fun i => (g i).bind f
 | .imm _ => rfl
 | .osl id .. => by simp only [AV.ren]; cases g id <;> rfl
 | .optr id _ => by simp only [AV.ren]; cases g id <;> rfl
 | .omap id => by simp only [AV.ren]; cases g id <;> rfl
 | .yld id => by simp only [AV.ren]; cases g id <;> rfl
 | .seat id _ => by simp only [AV.ren]; cases g id <;> rfl
 | .tag .. => rfl
 | .err => rfl
 | .clo fn caps => by simp only [AV.ren, zmm caps]
 | .agg cells => by simp only [AV.ren, zmm cells]
 | .tup vs => by simp only [AV.ren, zmm vs]
 | .junk => rfl
theorem zmm {f g : Nat → Option Nat} : ∀ (l : List AV), AV.ren.renL f (AV.ren.renL g l) = AV.ren.renL (fun i => (g i).bind f) l
 | [] => rfl
 | x :: r => by simp only [AV.ren.renL, zmt x, zmm r]
end
mutual
theorem zms {f : Nat → Option Nat} : ∀ (x : AV) (id : Nat), id ∈ (x.ren f).refs → ∃ i ∈ x.refs, f i = some id
 | .imm _, id, h => by simp [AV.ren, AV.refs] at h
 | .osl i .., id, h => by
  simp only [AV.ren] at h
  cases hf : f i with
  | none => simp [hf, AV.refs] at h
  | some j => simp [hf, AV.refs] at h; exact ⟨i, by simp [AV.refs], by rw [hf, h]⟩
 | .optr i _, id, h => by
  simp only [AV.ren] at h
  cases hf : f i with
  | none => simp [hf, AV.refs] at h
  | some j => simp [hf, AV.refs] at h; exact ⟨i, by simp [AV.refs], by rw [hf, h]⟩
 | .omap i, id, h => by
  simp only [AV.ren] at h
  cases hf : f i with
  | none => simp [hf, AV.refs] at h
  | some j => simp [hf, AV.refs] at h; exact ⟨i, by simp [AV.refs], by rw [hf, h]⟩
 | .yld i, id, h => by
  simp only [AV.ren] at h
  cases hf : f i with
  | none => simp [hf, AV.refs] at h
  | some j => simp [hf, AV.refs] at h; exact ⟨i, by simp [AV.refs], by rw [hf, h]⟩
 | .seat i _, id, h => by
  simp only [AV.ren] at h
  cases hf : f i with
  | none => simp [hf, AV.refs] at h
  | some j => simp [hf, AV.refs] at h; exact ⟨i, by simp [AV.refs], by rw [hf, h]⟩
 | .clo fn caps, id, h => by simp only [AV.ren, AV.refs] at h ⊢; exact zml caps id h
 | .agg cells, id, h => by simp only [AV.ren, AV.refs] at h ⊢; exact zml cells id h
 | .tup vs, id, h => by simp only [AV.ren, AV.refs] at h ⊢; exact zml vs id h
 | .tag .., id, h => by simp [AV.ren, AV.refs] at h
 | .err, id, h => by simp [AV.ren, AV.refs] at h
 | .junk, id, h => by simp [AV.ren, AV.refs] at h
theorem zml {f : Nat → Option Nat} : ∀ (l : List AV) (id : Nat), id ∈ AV.refs.refsL (AV.ren.renL f l) → ∃ i ∈ AV.refs.refsL l, f i = some id
 | [], id, h => by simp [AV.ren.renL, AV.refs.refsL] at h
 | x :: r, id, h => by
  simp only [AV.ren.renL, AV.refs.refsL, List.mem_append] at h ⊢
  rcases h with h | h
  ·obtain ⟨i, hi, e⟩ := zms x id h; exact ⟨i, .inl hi, e⟩
  ·obtain ⟨i, hi, e⟩ := zml r id h; exact ⟨i, .inr hi, e⟩
end
theorem env_roots_mem : ∀ {e : Env} {id : Nat}, id ∈ Env.roots e ↔ ∃ p ∈ e, id ∈ p.2.refs
 | [], id => by simp [Env.roots]
 | (k, v) :: r, id => by simp [Env.roots, env_roots_mem (e := r)]
theorem zdr {f g : Nat → Option Nat} : ∀ (e : Env), (∀ id ∈ Env.roots e, f id = g id) → Env.ren f e = Env.ren g e
 | [], _ => rfl
 | (k, v) :: r, h => by
  simp only [Env.ren]
  rw [zmo v fun id hid => h id (by simp only [Env.roots, List.mem_append]; exact .inl hid), zdr r fun id hid => h id (by simp only [Env.roots, List.mem_append]; exact .inr hid)]
theorem zdw {f g : Nat → Option Nat} : ∀ (e : Env), (e.ren g).ren f = e.ren fun i => (g i).bind f
 | [] => rfl
 | (k, v) :: r => by simp only [Env.ren, zmt v, zdw r]
theorem zdv {f : Nat → Option Nat} {e : Env} {id : Nat} (h : id ∈ Env.roots (e.ren f)) : ∃ i ∈ Env.roots e, f i = some id := by
 obtain ⟨q, hq, hid⟩ := env_roots_mem.1 h
 obtain ⟨p, hp, rfl⟩ := zdu hq
 obtain ⟨i, hi, he⟩ := zms p.2 id hid
 exact ⟨i, env_roots_mem.2 ⟨p, hp, hi⟩, he⟩
theorem zjt {f g : Nat → Option Nat} (o : AObj) (h : ∀ id ∈ o.refs, f id = g id) : o.ren f = o.ren g := by
 cases o with
 | flat => rfl
 | rich cs => simp only [AObj.ren]; rw [zmg cs h]
 | map es =>
  simp only [AObj.ren, AObj.map.injEq]
  refine List.map_congr_left fun p hp => ?_
  rw [zmo p.1 fun id hid => h id (by simp only [AObj.refs, List.mem_append]; exact .inl (refsL_mem.2 ⟨p.1, List.mem_map.2 ⟨p, hp, rfl⟩, hid⟩)), zmo p.2 fun id hid => h id (by simp only [AObj.refs, List.mem_append]; exact .inr (refsL_mem.2 ⟨p.2, List.mem_map.2 ⟨p, hp, rfl⟩, hid⟩))]
 | dead => rfl
 | fix => rfl
 | loop env ps as b y => simp only [AObj.ren]; rw [zdr env h]
 | text => rfl
 | iter => rfl
theorem zju {f : Nat → Option Nat} {o : AObj} (h : ∀ id ∈ o.refs, f id = some id) : o.ren f = o := by
 rw [zjt o (g := some) h, zjx]
theorem zjw {f g : Nat → Option Nat} (o : AObj) : (o.ren g).ren f = o.ren fun i => (g i).bind f := by
 cases o with
 | flat => rfl
 | rich cs => simp only [AObj.ren, zmm]
 | map es => simp only [AObj.ren, List.map_map, AObj.map.injEq]; exact List.map_congr_left fun p _ => by simp only [Function.comp, zmt]
 | dead => rfl
 | fix => rfl
 | loop env ps as b y => simp only [AObj.ren, zdw]
 | text => rfl
 | iter => rfl
theorem zjv {f : Nat → Option Nat} (o : AObj) (id : Nat) (h : id ∈ (o.ren f).refs) : ∃ i ∈ o.refs, f i = some id := by
 cases o with
 | flat => simp [AObj.ren, AObj.refs] at h
 | rich cs => simp only [AObj.ren, AObj.refs] at h ⊢; exact zml cs id h
 | map es =>
  simp only [AObj.ren, AObj.refs, List.mem_append] at h ⊢
  rcases h with h | h
  ·obtain ⟨x, hx, hid⟩ := refsL_mem.1 h
   simp only [List.map_map, List.mem_map, Function.comp] at hx
   obtain ⟨p, hp, rfl⟩ := hx
   obtain ⟨i, hi, e⟩ := zms p.1 id hid
   exact ⟨i, .inl (refsL_mem.2 ⟨p.1, List.mem_map.2 ⟨p, hp, rfl⟩, hi⟩), e⟩
  ·obtain ⟨x, hx, hid⟩ := refsL_mem.1 h
   simp only [List.map_map, List.mem_map, Function.comp] at hx
   obtain ⟨p, hp, rfl⟩ := hx
   obtain ⟨i, hi, e⟩ := zms p.2 id hid
   exact ⟨i, .inr (refsL_mem.2 ⟨p.2, List.mem_map.2 ⟨p, hp, rfl⟩, hi⟩), e⟩
 | dead => simp [AObj.ren, AObj.refs] at h
 | fix => simp [AObj.ren, AObj.refs] at h
 | loop env ps as b y => simp only [AObj.ren, AObj.refs] at h ⊢; exact zdv h
 | text => simp [AObj.ren, AObj.refs] at h
 | iter => simp [AObj.ren, AObj.refs] at h
theorem zdt {f : Nat → Option Nat} (h : ∀ id, f id = some id) : ∀ (e : Env), e.ren f = e
 | [] => rfl
 | (k, v) :: r => by simp only [Env.ren, zdt h r, ren_id fun id _ => h id]
theorem zj8 (o : AObj) : o.orMoved false = o := zkb o
theorem zlf {x : AV} {f : Nat → Option Nat} (h : (x.ren f).plain1 = true) (g : Nat → Option Nat) : x.ren g = x.ren f := by
 cases x with
 | imm v => rfl
 | osl id => simp only [AV.ren] at h; split at h <;> cases h
 | optr id => simp only [AV.ren] at h; split at h <;> cases h
 | omap id => simp only [AV.ren] at h; split at h <;> cases h
 | yld id => simp only [AV.ren] at h; split at h <;> cases h
 | seat id => simp only [AV.ren] at h; split at h <;> cases h
 | _ => first | rfl | cases h
theorem zli {f : Nat → Option Nat} (g : Nat → Option Nat) : ∀ {l : List AV}, (AV.ren.renL f l).all AV.plain1 = true → AV.ren.renL g l = AV.ren.renL f l
 | [], _ => rfl
 | x :: l, h => by
  simp only [AV.ren.renL, List.all_cons, Bool.and_eq_true] at h ⊢
  rw [zlf h.1 g, zli g h.2]
theorem zlh {x : AV} {f : Nat → Option Nat} (h : (x.ren f).plain2 = true) (g : Nat → Option Nat) : x.ren g = x.ren f := by
 cases x with
 | agg cs => simp only [AV.ren, AV.plain2] at h ⊢; rw [zli g h]
 | imm v => rfl
 | osl id => simp only [AV.ren] at h; split at h <;> cases h
 | optr id => simp only [AV.ren] at h; split at h <;> cases h
 | omap id => simp only [AV.ren] at h; split at h <;> cases h
 | yld id => simp only [AV.ren] at h; split at h <;> cases h
 | seat id => simp only [AV.ren] at h; split at h <;> cases h
 | _ => first | rfl | cases h
theorem zlj {f : Nat → Option Nat} (g : Nat → Option Nat) : ∀ {l : List AV}, (AV.ren.renL f l).all AV.plain2 = true → AV.ren.renL g l = AV.ren.renL f l
 | [], _ => rfl
 | x :: l, h => by
  simp only [AV.ren.renL, List.all_cons, Bool.and_eq_true] at h ⊢
  rw [zlh h.1 g, zlj g h.2]
theorem zln {x : AV} {f : Nat → Option Nat} (h : (x.ren f).plain = true) (g : Nat → Option Nat) : x.ren g = x.ren f := by
 cases x with
 | tup cs => simp only [AV.ren, AV.plain] at h ⊢; rw [zlj g h]
 | agg cs => exact zlh (by simpa only [AV.ren, AV.plain] using h) g
 | imm v => rfl
 | osl id => simp only [AV.ren] at h; split at h <;> cases h
 | optr id => simp only [AV.ren] at h; split at h <;> cases h
 | omap id => simp only [AV.ren] at h; split at h <;> cases h
 | yld id => simp only [AV.ren] at h; split at h <;> cases h
 | seat id => simp only [AV.ren] at h; split at h <;> cases h
 | _ => first | rfl | cases h
theorem zlo {x : AV} (h : x.plain = true) (g : Nat → Option Nat) : x.ren g = x := by
 have := zln (x := x) (f := some) (by rw [zmu]; exact h) g
 rwa [zmu] at this
theorem zky {call : Calls'} {s : St} {fn : Nat} {args : List AV} {r : AV} {s' : St} (h : exPeek call s fn args = some (r, s')) : s' = s ∧ r.plain = true ∧ exShare call s fn args = some (r, s) := by
 unfold exPeek at h
 unfold exShare
 dsimp only at h ⊢
 obtain ⟨hnd, hlt, _⟩ := zke (k := 0) (roots := AV.refs.refsL args) (m := s.mem) (Nat.zero_le _)
 generalize order 0 (AV.refs.refsL args) s.mem = l at *
 cases hc : call fn (AV.ren.renL (place l) args) (s.mem.pickAll l) with
 | none => simp [hc] at h
 | some rm =>
  obtain ⟨rv, mc⟩ := rm
  simp only [hc] at h ⊢
  split at h
  case isFalse => cases h
  rename_i hq
  obtain ⟨rfl, hp, hall⟩ := hq
  simp only [Option.some.injEq, Prod.mk.injEq] at h
  obtain ⟨rfl, rfl⟩ := h
  refine ⟨rfl, hp, ?_⟩
  have hpl : (s.mem.pickAll l).length = l.length := by simp [Mem.pickAll]
  have hget : ∀ (i id : Nat), l[i]? = some id → (s.mem.pickAll l)[i]? = some (((s.mem[id]?).getD .dead).ren (place l)) := by
   intro i id hi; simp [Mem.pickAll, hi]
  have hok : ∀ id ∈ l, ((s.mem[id]?).getD .dead).moved = false ∧ ∀ j ∈ ((s.mem[id]?).getD .dead).refs, j ∈ l := by
   intro id hid
   have := List.all_eq_true.1 hall id hid
   simp only [Bool.and_eq_true, Bool.not_eq_true', List.all_eq_true, List.contains_iff_mem] at this
   exact this.2
  have hsok : shareOk s.mem l = true := by
   simp only [shareOk, Bool.or_eq_true]
   left
   rw [List.all_eq_true] at hall ⊢
   intro id hid
   have := hall id hid
   simp only [Bool.and_eq_true] at this
   exact this.1
  rw [if_neg (by rw [hsok]; decide)]
  have hstay : ∀ id, (match place l id with
   | some i => if (((s.mem.pickAll l)[i]?).getD .dead).moved then none else some id
   | none => some id) = some id := by
   intro id
   cases hpi : place l id with
   | none => rfl
   | some i =>
    have hi := zk8 l id i hpi
    simp only [hget i id hi, Option.getD_some]
    have hm := (hok id (List.mem_of_getElem? hi)).1
    have : (((s.mem[id]?).getD .dead).ren (place l)).moved = false := by rw [← hm]; cases (s.mem[id]?).getD .dead <;> rfl
    simp [this]
  rw [zlo hp]
  have hmem : ∀ back stay : Nat → Option Nat, (∀ i, i < l.length → back i = l[i]?) → (∀ id, stay id = some id) → (List.range (s.mem.length + ((s.mem.pickAll l).length - l.length))).map (shareAt s l (s.mem.pickAll l) back stay) = s.mem := by
   intro back stay hback hst
   rw [hpl, Nat.sub_self, Nat.add_zero]
   apply List.ext_getElem?
   intro id
   rcases Nat.lt_or_ge id s.mem.length with hlt' | hge
   ·rw [List.getElem?_map, List.getElem?_range hlt', List.getElem?_eq_getElem hlt']
    simp only [Option.map_some, Option.some.injEq]
    unfold shareAt
    have hg : (s.mem[id]?).getD .dead = s.mem[id] := by rw [List.getElem?_eq_getElem hlt']; rfl
    cases hpi : place l id with
    | none =>
     simp only [hlt', if_true, hg]
     exact zju fun j _ => hst j
    | some i =>
     have hi := zk8 l id i hpi
     obtain ⟨hm, hcl⟩ := hok id (List.mem_of_getElem? hi)
     simp only [hget i id hi, Option.getD_some, hg] at hm hcl ⊢
     rw [hm, zj8, zjw]
     refine zju fun j hj => ?_
     have hjl := hcl j hj
     cases hpj : place l j with
     | none =>
      obtain ⟨q, hq⟩ := List.getElem?_of_mem hjl
      rw [zla l j q hnd hq] at hpj; cases hpj
     | some q =>
      have hq := zk8 l j q hpj
      simp only [Option.bind_some]
      rw [hback q (List.getElem?_eq_some_iff.1 hq).1, hq]
   ·rw [List.getElem?_eq_none (by simpa using hge), List.getElem?_eq_none hge]
  refine congrArg (fun u : St => some (rv, u)) (?_ : St.mk s.k _ _ = St.mk s.k s.env s.mem)
  rw [St.mk.injEq]
  exact ⟨rfl, zdt hstay _, hmem _ _ (fun i hi => if_pos hi) hstay⟩
theorem zit {call : Calls'} {s : St} {fn : Nat} {args : List AV} {r : AV} {s' : St} (h : exLook call s fn args = some (r, s')) : exShare call s fn args = some (r, s') := by
 unfold exLook at h
 unfold exShare
 dsimp only at h ⊢
 obtain ⟨hnd, hlt, _⟩ := zke (k := 0) (roots := AV.refs.refsL args) (m := s.mem) (Nat.zero_le _)
 generalize order 0 (AV.refs.refsL args) s.mem = l at *
 cases hc : call fn (AV.ren.renL (place l) args) (s.mem.pickAll l) with
 | none => simp [hc] at h
 | some rm =>
  obtain ⟨rv, mc⟩ := rm
  simp only [hc] at h ⊢
  split at h
  case isFalse => cases h
  rename_i hq
  obtain ⟨hmc, hall⟩ := hq
  rw [Bool.and_eq_true] at hall
  replace hall := hall.1
  simp only [Option.some.injEq, Prod.mk.injEq] at h
  obtain ⟨rfl, rfl⟩ := h
  have hpl : (s.mem.pickAll l).length = l.length := by simp [Mem.pickAll]
  have hml : l.length ≤ mc.length := by
   have := congrArg List.length hmc
   rw [List.length_take, hpl] at this
   omega
  have hget : ∀ (i id : Nat), l[i]? = some id → mc[i]? = some (((s.mem[id]?).getD .dead).ren (place l)) := by
   intro i id hi
   have hil := (List.getElem?_eq_some_iff.1 hi).1
   have h1 : (mc.take l.length)[i]? = mc[i]? := by rw [List.getElem?_take, if_pos hil]
   rw [← h1, hmc]
   simp [Mem.pickAll, hi]
  have hok : ∀ id ∈ l, ((s.mem[id]?).getD .dead).moved = false ∧ ∀ j ∈ ((s.mem[id]?).getD .dead).refs, j ∈ l := by
   intro id hid
   have := List.all_eq_true.1 hall id hid
   simp only [Bool.and_eq_true, Bool.not_eq_true', List.all_eq_true, List.contains_iff_mem] at this
   exact this.2
  have hsok : shareOk s.mem l = true := by
   simp only [shareOk, Bool.or_eq_true]
   left
   rw [List.all_eq_true] at hall ⊢
   intro id hid
   have := hall id hid
   simp only [Bool.and_eq_true] at this
   exact this.1
  rw [if_neg (by rw [hsok]; decide)]
  have hstay : ∀ id, (match place l id with
   | some i => if ((mc[i]?).getD .dead).moved then none else some id
   | none => some id) = some id := by
   intro id
   cases hpi : place l id with
   | none => rfl
   | some i =>
    have hi := zk8 l id i hpi
    simp only [hget i id hi, Option.getD_some]
    have hm := (hok id (List.mem_of_getElem? hi)).1
    have : (((s.mem[id]?).getD .dead).ren (place l)).moved = false := by rw [← hm]; cases (s.mem[id]?).getD .dead <;> rfl
    simp [this]
  have hmem : ∀ back stay : Nat → Option Nat, (∀ i, i < l.length → back i = l[i]?) → (∀ id, stay id = some id) → (List.range (s.mem.length + (mc.length - l.length))).map (shareAt s l mc back stay) = s.mem ++ (mc.drop l.length).map (AObj.ren back) := by
   intro back stay hback hst
   apply List.ext_getElem?
   intro id
   rcases Nat.lt_or_ge id s.mem.length with hlt' | hge
   ·rw [List.getElem?_map, List.getElem?_range (by omega), List.getElem?_append_left hlt', List.getElem?_eq_getElem hlt']
    simp only [Option.map_some, Option.some.injEq]
    unfold shareAt
    have hg : (s.mem[id]?).getD .dead = s.mem[id] := by rw [List.getElem?_eq_getElem hlt']; rfl
    cases hpi : place l id with
    | none =>
     simp only [hlt', if_true, hg]
     exact zju fun j _ => hst j
    | some i =>
     have hi := zk8 l id i hpi
     obtain ⟨hm, hcl⟩ := hok id (List.mem_of_getElem? hi)
     simp only [hget i id hi, Option.getD_some, hg] at hm hcl ⊢
     rw [hm, zj8, zjw]
     refine zju fun j hj => ?_
     have hjl := hcl j hj
     cases hpj : place l j with
     | none =>
      obtain ⟨q, hq⟩ := List.getElem?_of_mem hjl
      rw [zla l j q hnd hq] at hpj; cases hpj
     | some q =>
      have hq := zk8 l j q hpj
      simp only [Option.bind_some]
      rw [hback q (List.getElem?_eq_some_iff.1 hq).1, hq]
   ·rcases Nat.lt_or_ge id (s.mem.length + (mc.length - l.length)) with hlt' | hge'
    ·have hnone : place l id = none := zk9 fun hmem => by have := hlt _ hmem; omega
     rw [List.getElem?_map, List.getElem?_range hlt', List.getElem?_append_right hge, List.getElem?_map, List.getElem?_drop]
     have hi : l.length + (id - s.mem.length) < mc.length := by omega
     simp only [Option.map_some, List.getElem?_eq_getElem hi, Option.some.injEq]
     unfold shareAt
     simp only [hnone, if_neg (Nat.not_lt.2 hge), List.getElem?_eq_getElem hi, Option.getD_some]
    ·rw [List.getElem?_eq_none (by simpa using hge'), List.getElem?_eq_none (by simp; omega)]
  refine congrArg (fun u : St => some (rv.ren _, u)) (?_ : St.mk s.k _ _ = St.mk s.k s.env _)
  rw [St.mk.injEq]
  exact ⟨rfl, zdt hstay _, hmem _ _ (fun i hi => if_pos hi) hstay⟩
theorem zp6 {call : Calls'} {s : St} {fn : Nat} {args : List AV} {r : AV} {s' : St} (h : exTouch call s fn args = some (r, s')) : exShare call s fn args = some (r, s') := by
 unfold exTouch at h
 unfold exShare
 dsimp only at h ⊢
 generalize order 0 (AV.refs.refsL args) s.mem = l at *
 cases hc : call fn (AV.ren.renL (place l) args) (s.mem.pickAll l) with
 | none => simp [hc] at h
 | some rm =>
  obtain ⟨rv, mc⟩ := rm
  simp only [hc] at h ⊢
  split at h
  case isFalse => cases h
  rename_i hq
  obtain ⟨hml, hall⟩ := hq
  rw [Bool.and_eq_true, Bool.and_eq_true] at hall
  obtain ⟨ha1, ha2, _⟩ := hall
  simp only [Option.some.injEq, Prod.mk.injEq] at h
  obtain ⟨rfl, rfl⟩ := h
  have hsok : shareOk s.mem l = true := by
   simp only [shareOk, Bool.or_eq_true]
   left
   rw [List.all_eq_true] at ha1 ⊢
   intro id hid
   have := ha1 id hid
   simp only [Bool.and_eq_true] at this
   exact this.1
  rw [if_neg (by rw [hsok]; decide)]
  have hstay : ∀ id, (match place l id with
   | some i => if ((mc[i]?).getD .dead).moved then none else some id
   | none => some id) = some id := by
   intro id
   cases hpi : place l id with
   | none => rfl
   | some i =>
    have hi := zk8 l id i hpi
    have hil := (List.getElem?_eq_some_iff.1 hi).1
    have hm : ((mc[i]?).getD .dead).moved = false := by
     have h1 : mc[i]? = some mc[i] := List.getElem?_eq_getElem (by omega)
     rw [h1, Option.getD_some]
     have := List.all_eq_true.1 ha2 mc[i] (List.mem_of_getElem? (i := i) (by rw [List.getElem?_take, if_pos hil]; exact h1))
     simpa using this
    simp [hm]
  refine congrArg (fun u : St => some (rv.ren _, u)) (?_ : St.mk s.k _ _ = St.mk s.k s.env _)
  rw [St.mk.injEq]
  refine ⟨rfl, zdt hstay _, List.map_congr_left fun id _ => ?_⟩
  unfold shareAt
  split
  ·rfl
  ·split
   ·exact zjt _ fun j _ => hstay j
   ·rfl
end Go.EX


set_option linter.unusedVariables false
set_option linter.unusedSimpArgs false
namespace Go.EX
section
variable {num : Names} {P : Program}
variable {ty : TypeId} {pos : String} {after : Array Edge} {a : Act} {C : Cx} {s : St}
theorem zcy {α : Type} (l : List α) (n : Nat) (h : l.length = n) : cut l 0 n = some l := by
 subst h
 simp [cut]
theorem zcb {m : Mem} (hm : MRep num C m) {id : Nat} {o : AObj} (ho : m[id]? = some o) {cs : List IV} {mv : Bool} (hoc : o = .flat cs mv ∨ o = .fix cs mv true) {w' : World} {nb : Nat} (hnb : nb = C.σ id ∨ (C.w.heap.size ≤ nb))
  (hos : w'.os = C.w.os) (htp : w'.tape = C.w.tape) (hout : w'.output = C.w.output) (hsize : C.w.heap.size ≤ w'.heap.size)
  (hw : ∀ b, b < C.w.heap.size → b ≠ C.σ id → w'.heap[b]? = C.w.heap[b]?)
  (hrow : ∀ arr e, C.w.heap[C.σ id]? = some (.cells arr e (0, 0)) → ∃ arr', w'.heap[C.σ id]? = some (.cells arr' e (0, 0)) ∧ arr'.size = arr.size ∧ ∀ j : Nat, j < cs.length → arr'[j]? = arr[j]?)
  {news : List IV} (hr : ORep num (C.claim nb w') C.n (.fix (cs ++ news) false true)) {k : Nat} (hk : k ≤ m.length) :
  Step num k C m (C.claim nb w') (m.set id (.fix cs mv false) ++ [.fix (cs ++ news) false true]) ∧ Tr some C (C.claim nb w') := by
 have hlo : o.live = true := by rcases hoc with rfl | rfl <;> rfl
 have hmo : o.moved = mv := by rcases hoc with rfl | rfl <;> rfl
 have hoo : ORep num C id (.fix cs mv false) := by
  have := hm.obj id o ho
  rcases hoc with rfl | rfl <;> exact this
 have hsz : ∀ n e, RowAt C.w (C.σ id) n e → RowAt (w') (C.σ id) n e := fun arr e h => by
  obtain ⟨arr0, e0, h0, _⟩ := hoo
  obtain ⟨arr', h1, h2, _⟩ := hrow arr0 e0 h0
  exact h.put h0 h1 h2
 have ht := zcd (nb := nb) hm ho hlo hw hsz
 refine ⟨?_, ht⟩
 have hid : id < m.length := (List.getElem?_eq_some_iff.1 ho).1
 have hlen := hm.len
 have hσ : ∀ i, i < m.length → (C.claim nb w').σ i = C.σ i := fun i hi => by simp only [Cx.claim]; rw [if_neg (by omega)]
 have hσn : (C.claim nb w').σ C.n = nb := by simp [Cx.claim]
 have hsh : ∀ (j : Nat) p, m[j]? = some p → p.live = true → C.σ j = C.σ id → j = id ∨ ∃ a b, p = .fix a b false ∧ a.length ≤ cs.length := by
  intro j p hp hl he
  rcases hm.inj j id p o hp ho hl hlo he with h | h
  ·exact .inl h
  ·right
   rcases hoc with rfl | rfl
   ·have := (zqc h).2; cases this
   ·cases p with
    | fix a b t =>
     simp only [AObj.twin] at h
     obtain ⟨h1, h2, h3⟩ := h
     cases t with
     | true => cases h1
     | false => exact ⟨a, b, rfl, h3 trivial⟩
    | _ => cases h
 have hkeep : ∀ (j : Nat) (a : List IV) (b t t' : Bool), j < m.length → ORep num C j (.fix a b t) → C.σ j = C.σ id → a.length ≤ cs.length → ORep num (C.claim nb w') j (.fix a b t') := by
  intro j a b t t' hj hrep he hle
  obtain ⟨arr, e, h1, h2⟩ := hrep
  rw [he] at h1
  obtain ⟨arr', h3, _, h5⟩ := hrow arr e h1
  refine ⟨arr', e, by rw [hσ j hj, he]; exact h3, fun i x hx => ?_⟩
  obtain ⟨u, hu, hr'⟩ := h2 i x hx
  have hi : i < a.length := (List.getElem?_eq_some_iff.1 hx).1
  exact ⟨u, by rw [h5 i (by omega)]; exact hu, hr'.mono ht.imm ht.keep⟩
 have split : ∀ (i : Nat) (q : AObj), (m.set id (.fix cs mv false) ++ [.fix (cs ++ news) false true])[i]? = some q → (i < m.length ∧ i ≠ id ∧ m[i]? = some q) ∨ (i = id ∧ q = .fix cs mv false) ∨ (i = C.n ∧ q = .fix (cs ++ news) false true) := by
  intro i q hq
  rcases Nat.lt_or_ge i m.length with h | h
  ·rw [List.getElem?_append_left (by rw [List.length_set]; exact h), zop] at hq
   split at hq
   ·rename_i hi; exact .inr (.inl ⟨hi.1.symm, (Option.some.inj hq).symm⟩)
   ·rename_i hi; exact .inl ⟨h, fun e => hi ⟨e.symm, by rw [e]; exact hid⟩, hq⟩
  ·rw [List.getElem?_append_right (by rw [List.length_set]; exact h), List.length_set] at hq
   have h0 : i - m.length = 0 := by
    rcases Nat.eq_zero_or_pos (i - m.length) with h0 | h0
    ·exact h0
    ·rw [List.getElem?_eq_none (by simp; omega)] at hq; cases hq
   rw [h0] at hq
   exact .inr (.inr ⟨by omega, by simpa using hq.symm⟩)
 have hlt : ∀ i q, m[i]? = some q → q.live = true → C.σ i < C.w.heap.size := fun i q hq hl => MRep.lt num hm ⟨i, q, hq, hl, rfl⟩
 have hown : ∀ b, Own (C.claim nb w') (m.set id (.fix cs mv false) ++ [.fix (cs ++ news) false true]) b → C.w.heap.size ≤ b ∨ Own C m b := by
  rintro b ⟨i, q, hq, hl, hb⟩
  rcases split i q hq with ⟨hi, hne, hq'⟩ | ⟨rfl, rfl⟩ | ⟨rfl, rfl⟩
  ·rw [hσ i hi] at hb; exact .inr ⟨i, q, hq', hl, hb⟩
  ·rw [hσ i hid] at hb; exact .inr ⟨i, o, ho, hlo, hb⟩
  ·rw [hσn] at hb
   rcases hnb with h | h
   ·exact .inr ⟨id, o, ho, hlo, by rw [← hb, h]⟩
   ·exact .inl (by omega)
 refine ⟨⟨by simp [Cx.claim, hlen], ?_, ?_, ?_, fun b hb => Nat.lt_of_lt_of_le (hm.bd b hb) hsize, num.up hm.glo ht.imm ht.keep⟩, hos, htp, hout, hsize, ?_, ?_, fun _ h => h, fun _ h => .inl h, hown, ?_, by simp; omega⟩
 ·intro i q hq
  rcases split i q hq with ⟨hi, hne, hq'⟩ | ⟨rfl, rfl⟩ | ⟨rfl, rfl⟩
  ·by_cases hlq : q.live = true
   ·by_cases he : C.σ i = C.σ id
    ·rcases hsh i q hq' hlq he with h | ⟨a, b, rfl, hle⟩
     ·exact absurd h hne
     ·exact hkeep i a b false false hi (hm.obj i _ hq') he hle
    ·refine zkg ht (hσ i hi) (fun x h => ?_) (hm.obj i q hq')
     show w'.heap[C.σ i]? = _
     rw [hw _ (hlt i q hq' hlq) he]
     exact h
   ·cases q with
    | dead => trivial
    | _ => exact absurd rfl hlq
  ·exact hkeep i cs mv false false hid hoo rfl (Nat.le_refl _)
  ·exact hr
 ·intro i j q q2 hq hq2 hl1 hl2 he
  rcases split i q hq with ⟨hi, hne, hq'⟩ | ⟨rfl, rfl⟩ | ⟨rfl, rfl⟩ <;> rcases split j q2 hq2 with ⟨hj, hne2, hq2'⟩ | ⟨rfl, rfl⟩ | ⟨rfl, rfl⟩
  ·rw [hσ i hi, hσ j hj] at he; exact hm.inj i j q q2 hq' hq2' hl1 hl2 he
  ·rw [hσ i hi, hσ j hid] at he
   rcases hsh i q hq' hl1 he with h | ⟨a, b, rfl, hle⟩
   ·exact .inl h
   ·right; simp [AObj.twin]
  ·rw [hσ i hi, hσn] at he
   have hb := hlt i q hq' hl1
   rcases hnb with h | h
   ·rcases hsh i q hq' hl1 (by rw [he, h]) with h | ⟨a, b, rfl, hle⟩
    ·exact absurd h hne
    ·right; simp [AObj.twin]; omega
   ·omega
  ·rw [hσ i hid, hσ j hj] at he
   rcases hsh j q2 hq2' hl2 he.symm with h | ⟨a, b, rfl, hle⟩
   ·exact .inl h.symm
   ·right; simp [AObj.twin]
  ·exact .inl rfl
  ·right; simp [AObj.twin]
  ·rw [hσ j hj, hσn] at he
   have hb := hlt j q2 hq2' hl2
   rcases hnb with h | h
   ·rcases hsh j q2 hq2' hl2 (by rw [← he, h]) with h | ⟨a, b, rfl, hle⟩
    ·exact absurd h hne2
    ·right; simp [AObj.twin]; omega
   ·omega
  ·right; simp [AObj.twin]
  ·exact .inl rfl
 ·intro b hb hI
  rcases hown b hb with h | h
  ·have := hm.bd b hI; omega
  ·exact hm.imm b h hI
 ·intro b hb hno
  exact hw b hb fun e => hno ⟨id, o, ho, hlo, e.symm⟩
 ·intro b arr e h
  by_cases hb : b = C.σ id
  ·subst hb; exact hsz arr e h
  ·exact h.same (hw b h.lt hb)
 ·intro i _ q hq hmq
  rcases split i q hq with ⟨hi, hne, hq'⟩ | ⟨rfl, rfl⟩ | ⟨rfl, rfl⟩
  ·exact ⟨q, hq', hmq, hσ i hi⟩
  ·exact ⟨o, ho, hmo.trans hmq, hσ i hid⟩
  ·omega
theorem zro (hs : SRep num C s a) {t u e : TypeId} {d : TypeDesc} {x y : Operand} {x' y' : Src} (ht : P.underlying t = some (.slice e)) (hu : P.underlying u = some d) (hd : notIntD d = true) (hk : known P e = true) (h0 : 0 < P.cellsOf e) (hb0 : 0 < P.bytesOf e)
  (hz : zeroOk P e = true) (hx : trSrc num x = some x') (hy : trSrc num y = some y') {r : AV} {s' : St} (h : exAppendK s (P.cellsOf e) (P.bytesOf e) (s.env.ev x') (s.env.ev y') = some (r, s')) :
  Yields num P (.call { callee := .builtin .append, args := #[x, y], argTypes := #[t, u] }) ty pos after a C s r s' := by
 unfold exAppendK at h
 split at h
 case h_2 => exact zrn hs ht hu hd hk h0 hb0 hz hx hy h
 rename_i id sz' l heq
 split at h
 case isFalse => cases h
 rename_i hsz'
 subst hsz'
 obtain ⟨i, dd, hi, _, hsz, hby⟩ := zh1 hk
 obtain ⟨z, hzi, hzs⟩ : ∃ z, i.zero = some z ∧ z.cells.size = P.cellsOf e := by
  unfold zeroOk zeroCellsOf at hz
  rw [hi] at hz
  cases hq : i.zero with
  | none => simp [hq] at hz
  | some z => simp [hq] at hz; exact ⟨z, rfl, hz⟩
 have hm := hs.mem
 have hlen := hm.len
 cases hel : elems s.mem (P.cellsOf e) (s.env.ev y') with
 | none => simp [hel] at h
 | some nn =>
  obtain ⟨n, news⟩ := nn
  simp only [hel] at h
  obtain ⟨us, hg⟩ := zgb (P := P) hm (zpc hs hy) hel
  have hax := zpc hs hx
  have hexec : ∀ (b : Option Addr) (l c : Nat) (v : Value) (w' : World), a.eval x = .slice b l c → (Builtin.append_ #[t, u] ty #[.slice b l c, a.eval y]).run P C.w = .ok v w' →
    ∀ dst g, (execOp a.eval ⟨dst, .call { callee := .builtin .append, args := #[x, y], argTypes := #[t, u] }, ty, pos, after, g⟩).run P C.w = .ok (.value v) w' := by
   intro b l c v w' hb hr dst g
   simp [execOp, resolve, invoke, builtin, hb, hr]
  obtain ⟨o, cs, mv, ho, hoc, hcl, hn0, hbd, hrs⟩ : ∃ o cs mv, s.mem[id]? = some o ∧ (o = .flat cs mv ∨ o = .fix cs mv true) ∧ cs.length = l * P.cellsOf e ∧ 0 < n ∧ (l + n) * P.bytesOf e ≤ 140737488355328 ∧
    (AV.osl s.mem.length 0 (P.cellsOf e) (l + n) none, ({ s with mem := s.mem.set id (.fix cs mv false) ++ [.fix (cs ++ news) false true] } : St)) = (r, s') := by
   split at h
   ·rename_i cs mv ho
    split at h
    ·rename_i hc; exact ⟨_, cs, mv, ho, .inl rfl, hc.1, hc.2.1, hc.2.2, Option.some.inj h⟩
    ·cases h
   ·rename_i cs mv ho
    split at h
    ·rename_i hc; exact ⟨_, cs, mv, ho, .inr rfl, hc.1, hc.2.1, hc.2.2, Option.some.inj h⟩
    ·cases h
   ·cases h
  obtain ⟨rfl, rfl⟩ := Prod.mk.inj hrs
  have hax0 := hax
  rw [heq] at hax
  have hels : elems s.mem (P.cellsOf e) (s.env.ev x') = some (l, cs) := by
   rw [heq]
   rcases hoc with rfl | rfl <;> simp only [elems, ho, zcy cs _ hcl, Option.map_some]
  obtain ⟨olds, hg2⟩ := zgb (P := P) hm hax0 hels
  have hoo : ORep num C id (.fix cs mv false) := by
   have := hm.obj id o ho
   rcases hoc with rfl | rfl <;> exact this
  generalize hxv : a.eval x = v at hax hg2
  cases hax with
  | osl _ _ _ _ _ c' ad arr e' hid hl hk' ha hw hss =>
   obtain ⟨arr, fz0, hw, rfl⟩ := hw
   obtain ⟨arr2, e2, hw2, hcs⟩ := hoo
   rw [hw] at hw2
   obtain ⟨rfl, rfl, rfl⟩ : arr = arr2 ∧ e' = e2 ∧ fz0 = (0, 0) := by simpa using hw2
   rcases Nat.lt_or_ge c' (l + n) with hgt | hroom
   ·
    have hr := znh (P := P) (ty := ty) ht hu hd hi hzi C.w (some ⟨C.σ id, ad, none⟩) l c' n (a.eval y) olds us (hg.len _) (by rw [← hsz]; exact hg.cells _ rfl) (by rw [← hsz]; exact hg2.cells _ rfl) hgt (by rw [← hby]; exact hbd) (by rw [← hby]; exact hb0)
    generalize hrest : Builtin.zeroCells z.cells (grownCap C.w (l + n) c' e - (l + n)) = rest at hr
    have hlt : C.σ id < C.w.heap.size := (Array.getElem?_eq_some_iff.1 hw).1
    have hwk : ∀ b, b < C.w.heap.size → (C.w.drew.alloc (.cells (olds ++ us ++ rest) e)).heap[b]? = C.w.heap[b]? := by
     intro b hb
     rw [zaw, if_neg (show ¬ b = C.w.drew.heap.size by show ¬ b = C.w.heap.size; omega)]
     rfl
    have hnew : (C.w.drew.alloc (.cells (olds ++ us ++ rest) e)).heap[C.w.heap.size]? = some (.cells (olds ++ us ++ rest) e (0, 0)) := by
     rw [zaw, if_pos (show C.w.heap.size = C.w.drew.heap.size from rfl)]
    have hσn : (C.claim C.w.heap.size (C.w.drew.alloc (.cells (olds ++ us ++ rest) e))).σ C.n = C.w.heap.size := by simp [Cx.claim]
    obtain ⟨hstep, htr⟩ := zcb (nb := C.w.heap.size) (w' := C.w.drew.alloc (.cells (olds ++ us ++ rest) e)) hm ho hoc (.inr (Nat.le_refl _)) rfl rfl rfl (by rw [World.size_alloc]; exact Nat.le_succ C.w.heap.size) (fun b hb _ => hwk b hb)
     (fun arr0 e0 h => ⟨arr0, by rw [hwk _ hlt]; exact h, rfl, fun _ _ => rfl⟩) (news := news)
     ⟨olds ++ us ++ rest, e, by rw [hσn]; exact hnew, zgl (w1 := C.w.drew) rfl hm hg2.rep (by rw [hg2.count, hg2.size]) hg.rep (by rw [hg.count, hg.size]) e⟩ hs.k
    refine ⟨_, _, fun dst g => .inl (hexec _ l c' _ _ hxv hr dst g), hstep, hs.env.mono htr, ?_, rfl⟩
    have hrs : rest.size = (grownCap C.w (l + n) c' e - (l + n)) * P.cellsOf e := by rw [← hrest, zsm, hzs]
    have hge := grownCap_ge C.w (l + n) c' e
    rw [hlen]
    conv => arg 4; rw [← hσn]
    refine .osl0 C.n 0 _ _ none _ 0 _ e (by simp [Cx.claim]) (zgk (by assumption) hb0) (fun k hk => by cases hk) (.inl rfl) (by rw [hσn]; exact hnew) (.inr ?_)
    rw [Array.size_append, Array.size_append, hg2.size, hg.size, hrs, ← Nat.add_mul, ← Nat.add_mul, Nat.zero_add]
    exact Nat.le_of_eq (by congr 1; omega)
   ·
    have hus : us.toList.length = n * P.cellsOf e := by rw [Array.length_toList, hg.size]
    rcases ha with rfl | h00
    ·have hfit : l * P.cellsOf e + us.toList.length ≤ arr.size := by
      rw [hus, ← Nat.add_mul]
      rcases hss with h0 | h0
      ·omega
      ·have := Nat.mul_le_mul_right (P.cellsOf e) hroom
       omega
     have hone : ∀ u ∈ us.toList, u.oneCell' = true := zgc hg
     have hst := run_storeCells_at P (C.σ id) (l * P.cellsOf e) e' us.toList 0 arr C.w hw (by rw [Nat.add_zero]; exact hfit) hone
     simp only [Nat.add_zero] at hst
     have hr := zni (P := P) (ty := ty) ht hu hd hi C.w (some ⟨C.σ id, 0, none⟩) l c' n (a.eval y) us (hg.len _) (by rw [← hsz]; exact hg.cells _ rfl) hroom
      (fun ad' had => by cases had; rw [zam, ← hsz, Nat.zero_add]; exact hst) (fun h => by cases h)
     have hsp := zpa arr (l * P.cellsOf e) us.toList hfit
     generalize hnr : (arr.toList.take (l * P.cellsOf e) ++ us.toList ++ arr.toList.drop (l * P.cellsOf e + us.toList.length)).toArray = narr at hr hsp hst
     have hwk : ∀ b, b < C.w.heap.size → b ≠ C.σ id → (C.w.setRow (C.σ id) narr).heap[b]? = C.w.heap[b]? := by
      intro b _ hb
      rw [zoo _ _ _ _ _ hw, if_neg hb]
     have hws : (C.w.setRow (C.σ id) narr).heap[C.σ id]? = some (.cells narr e' (0, 0)) := by
      rw [zoo _ _ _ _ _ hw, if_pos rfl]
     have hpre : ∀ j : Nat, j < cs.length → narr[j]? = arr[j]? := by
      intro j hj
      rw [← hnr, zo9 arr _ us.toList hfit, if_neg (by rw [← hcl]; omega)]
     have hσn : (C.claim (C.σ id) (C.w.setRow (C.σ id) narr)).σ C.n = C.σ id := by simp [Cx.claim]
     have hsz3 : ∀ arr0 e0, C.w.heap[C.σ id]? = some (.cells arr0 e0 (0, 0)) → ∃ arr', (C.w.setRow (C.σ id) narr).heap[C.σ id]? = some (.cells arr' e0 (0, 0)) ∧ arr'.size = arr0.size ∧ ∀ j : Nat, j < cs.length → arr'[j]? = arr0[j]? := by
      intro arr0 e0 h0'
      rw [hw] at h0'
      obtain ⟨rfl, rfl⟩ : arr = arr0 ∧ e' = e0 := by simpa using h0'
      exact ⟨_, hws, hsp, hpre⟩
     have hlo : o.live = true := by rcases hoc with rfl | rfl <;> rfl
     have htr0 := zcd (nb := C.σ id) hm ho hlo (w' := C.w.setRow (C.σ id) narr) hwk (fun n0 e0 h => h.put hw hws hsp)
     obtain ⟨hstep, htr⟩ := zcb (nb := C.σ id) (w' := C.w.setRow (C.σ id) narr) hm ho hoc (.inl rfl) rfl rfl rfl (by rw [size_setRow]; exact Nat.le_refl _) hwk hsz3 (news := news)
      ⟨narr, e', by rw [hσn]; exact hws, fun j x hx => by
       rcases Nat.lt_or_ge j cs.length with hj | hj
       ·rw [List.getElem?_append_left hj] at hx
        obtain ⟨u, hu', hr'⟩ := hcs j x hx
        exact ⟨u, by rw [hpre j hj]; exact hu', hr'.mono htr0.imm htr0.keep⟩
       ·rw [List.getElem?_append_right hj] at hx
        have hjn : j - cs.length < news.length := (List.getElem?_eq_some_iff.1 hx).1
        obtain ⟨u, hu', hr'⟩ := hg.rep _ x hx
        refine ⟨u, ?_, hr'.mono htr0.imm htr0.keep⟩
        rw [← hnr, zo9 arr _ us.toList hfit, if_pos (by rw [hus, ← hg.count]; omega), Array.getElem?_toList, ← hcl]
        exact hu'⟩ hs.k
     refine ⟨_, _, fun dst g => .inl (hexec _ l c' _ _ hxv hr dst g), hstep, hs.env.mono htr, ?_, rfl⟩
     rw [hlen]
     conv => arg 4; rw [← hσn]
     exact .osl0 C.n 0 _ _ none c' 0 _ e' (by simp [Cx.claim]) (by omega) (fun k hk => by cases hk) (.inl rfl) (by rw [hσn]; exact hws) (by rw [hsp]; exact hss)
    ·omega
end
end Go.EX


set_option linter.unusedVariables false
set_option linter.unusedSimpArgs false
namespace Go.EX
section
variable {num : Names} {P : Program}
variable {ty : TypeId} {pos : String} {after : Array Edge} {a : Act} {C : Cx} {s : St}
theorem zpx {m : Mem} (hm : MRep num C m) {id : Nat} {cs : List IV} (ho : m[id]? = some (.text cs)) : MRep num C (m.set id (.flat cs false)) := by
 have hid : id < m.length := (List.getElem?_eq_some_iff.1 ho).1
 have split : ∀ (i : Nat) p, (m.set id (.flat cs false))[i]? = some p → (i = id ∧ p = .flat cs false) ∨ (i ≠ id ∧ m[i]? = some p) := by
  intro i p hp
  rw [zop] at hp
  split at hp
  ·rename_i h; exact .inl ⟨h.1.symm, (Option.some.inj hp).symm⟩
  ·rename_i h; exact .inr ⟨fun e => h ⟨e.symm, by rw [e]; exact hid⟩, hp⟩
 have own : ∀ b, Own C (m.set id (.flat cs false)) b → Own C m b := by
  rintro b ⟨i, p, hp, hl, hb⟩
  rcases split i p hp with ⟨rfl, rfl⟩ | ⟨_, hp'⟩
  ·exact ⟨i, _, ho, rfl, hb⟩
  ·exact ⟨i, p, hp', hl, hb⟩
 refine ⟨by simpa using hm.len, fun i p hp => ?_, fun i j p q hp hq h1 h2 he => ?_, fun b hb => hm.imm b (own b hb), hm.bd, hm.glo⟩
 ·rcases split i p hp with ⟨rfl, rfl⟩ | ⟨_, hp'⟩
  ·obtain ⟨arr, e, h1, _, h2⟩ := hm.obj i _ ho
   exact ⟨arr, e, h1, h2⟩
  ·exact hm.obj i p hp'
 ·rcases split i p hp with ⟨rfl, rfl⟩ | ⟨hi, hp'⟩ <;> rcases split j q hq with ⟨rfl, rfl⟩ | ⟨hj, hq'⟩
  ·exact .inl rfl
  ·rcases hm.inj _ j _ q ho hq' rfl h2 he with h | h
   ·exact .inl h
   ·cases q <;> cases h
  ·rcases hm.inj i _ p _ hp' ho h1 rfl he with h | h
   ·exact .inl h
   ·cases p <;> cases h
  ·exact hm.inj i j p q hp' hq' h1 h2 he
theorem zpy {D : Cx} (ht : Tr some C D) {olds us : Array Value} {ol nl : List IV} (ho : ∀ (j : Nat) x, ol[j]? = some x → ∃ u : Value, olds[j]? = some u ∧ IRep C.I C.w x u) (hol : ol.length = olds.size)
  (hn : ∀ (j : Nat) x, nl[j]? = some x → ∃ u : Value, us[j]? = some u ∧ IRep C.I C.w x u) {arr : Array Value} (h1 : ∀ j : Nat, j < olds.size → arr[j]? = olds[j]?) (h2 : ∀ j : Nat, j < us.size → arr[olds.size + j]? = us[j]?) :
  ∀ (j : Nat) x, (ol ++ nl)[j]? = some x → ∃ u : Value, arr[j]? = some u ∧ IRep D.I D.w x u := by
 intro j x hx
 rcases Nat.lt_or_ge j ol.length with h | h
 ·rw [List.getElem?_append_left h] at hx
  obtain ⟨u, hu, hr⟩ := ho j x hx
  exact ⟨u, by rw [h1 j (by omega)]; exact hu, hr.mono ht.imm ht.keep⟩
 ·rw [List.getElem?_append_right h] at hx
  obtain ⟨u, hu, hr⟩ := hn _ x hx
  have hj := (Array.getElem?_eq_some_iff.1 hu).1
  refine ⟨u, ?_, hr.mono ht.imm ht.keep⟩
  have := h2 (j - ol.length) hj
  rw [← hol] at this
  have e : ol.length + (j - ol.length) = j := by omega
  rw [e] at this
  rw [this]; exact hu
theorem zrq (hU : ∀ e, isU8 P e = true → P.cellsOf e = 1 → num.U e) (hs : SRep num C s a) {t u e : TypeId} {d : TypeDesc} {x y : Operand} {x' y' : Src} (ht : P.underlying t = some (.slice e)) (hu : P.underlying u = some d) (hd : notIntD d = true) (hk : known P e = true) (h0 : 0 < P.cellsOf e) (hb0 : 0 < P.bytesOf e)
  (hz : zeroOk P e = true) (hc1 : P.cellsOf e = 1) (hb1 : P.bytesOf e = 1) (hu8 : isU8 P e = true) (hx : trSrc num x = some x') (hy : trSrc num y = some y') {r : AV} {s' : St} (h : exAppendS s (s.env.ev x') (s.env.ev y') = some (r, s')) :
  Yields num P (.call { callee := .builtin .append, args := #[x, y], argTypes := #[t, u] }) ty pos after a C s r s' := by
 obtain ⟨i, dd, hi, _, hsz, hby⟩ := zh1 hk
 obtain ⟨z, hzi, hzs⟩ : ∃ z, i.zero = some z ∧ z.cells.size = P.cellsOf e := by
  unfold zeroOk zeroCellsOf at hz
  rw [hi] at hz
  cases hq : i.zero with
  | none => simp [hq] at hz
  | some z => simp [hq] at hz; exact ⟨z, rfl, hz⟩
 have hm := hs.mem
 have hlen := hm.len
 have hue := hU e hu8 hc1
 unfold exAppendS at h
 cases hel : elems s.mem 1 (s.env.ev y') with
 | none => simp [hel] at h
 | some nn =>
  obtain ⟨n, news⟩ := nn
  simp only [hel] at h
  have hax := zpc hs hx
  split at h
  ·rename_i heq
   by_cases hn0 : n = 0
   ·rw [if_pos hn0] at h
    cases h
    have h9 : exAppend s (P.cellsOf e) (P.bytesOf e) (s.env.ev x') (s.env.ev y') = some (s.env.ev x', s) := by
     unfold exAppend
     rw [hc1, hel, heq]
     simp [hn0]
    rw [heq] at h9
    exact zrn hs ht hu hd hk h0 hb0 hz hx hy (by rw [heq]; exact h9)
   ·rw [if_neg hn0] at h
    obtain ⟨us, hg⟩ := zgb (P := P) hm (zpc hs hy) hel
    have hexec : ∀ (b : Option Addr) (l c : Nat) (v : Value) (w' : World), a.eval x = .slice b l c → (Builtin.append_ #[t, u] ty #[.slice b l c, a.eval y]).run P C.w = .ok v w' →
      ∀ dst g, (execOp a.eval ⟨dst, .call { callee := .builtin .append, args := #[x, y], argTypes := #[t, u] }, ty, pos, after, g⟩).run P C.w = .ok (.value v) w' := by
     intro b l c v w' hb hr dst g
     simp [execOp, resolve, invoke, builtin, hb, hr]
    have hxv : a.eval x = .slice none 0 0 := by rw [heq] at hax; exact zmx hax
    split at h
    ·rename_i hbd
     simp only [fresh, Option.some.injEq, Prod.mk.injEq] at h
     obtain ⟨rfl, rfl⟩ := h
     have hr := znh (P := P) (ty := ty) ht hu hd hi hzi C.w none 0 0 n (a.eval y) #[] us (hg.len _) (by rw [← hsz, hc1]; exact hg.cells _ rfl) rfl (by omega) (by rw [← hby, hb1, Nat.zero_add, Nat.mul_one]; exact hbd) (by rw [← hby]; exact hb0)
     generalize hrest : Builtin.zeroCells z.cells (grownCap C.w (0 + n) 0 e - (0 + n)) = rest at hr
     have htr := zji (w1 := C.w.drew) hm rfl (.cells (#[] ++ us ++ rest) e (0, 0))
     refine ⟨_, C.more C.w.drew (.cells (#[] ++ us ++ rest) e (0, 0)), fun dst g => .inl (hexec none 0 0 _ _ hxv hr dst g), zjh (w1 := C.w.drew) hm rfl rfl rfl rfl _ _ ?_ hs.k, hs.env.mono htr, ?_, rfl⟩
     ·refine ⟨#[] ++ us ++ rest, e, ?_, hue, ?_⟩
      ·simp only [Cx.more, if_true]
       rw [zaw, if_pos (show C.w.heap.size = C.w.drew.heap.size from rfl)]
      ·intro j x hx
       obtain ⟨u, hu, hr'⟩ := hg.rep j x hx
       have hj := (Array.getElem?_eq_some_iff.1 hu).1
       refine ⟨u, ?_, hr'.mono htr.imm htr.keep⟩
       rw [Array.getElem?_append_left (by simp; exact hj)]
       simpa using hu
     ·have hge := grownCap_ge C.w (0 + n) 0 e
      rw [hlen]
      rw [Nat.zero_add] at hge ⊢
      refine zjg (w1 := C.w.drew) rfl _ e (zgk (b := 1) (by rw [Nat.mul_one]; assumption) (by omega)) (fun k hk => by cases hk) (.inr ?_)
      have hrs : rest.size = (grownCap C.w (0 + n) 0 e - (0 + n)) * P.cellsOf e := by rw [← hrest, zsm, hzs]
      rw [Nat.zero_add, hc1] at hrs
      rw [Array.size_append, Array.size_append, hg.size, hrs]
      simp only [List.size_toArray, List.length_nil, Nat.zero_add]
      rw [← Nat.add_mul]
      exact Nat.le_of_eq (by congr 1; omega)
    ·cases h
  ·rename_i id l heq
   split at h
   ·rename_i cs ho
    split at h
    ·rename_i hcond
     obtain ⟨hcl, hl0, hbd⟩ := hcond
     simp only [Option.some.injEq, Prod.mk.injEq] at h
     obtain ⟨rfl, rfl⟩ := h
     obtain ⟨us, hg⟩ := zgb (P := P) hm (zpc hs hy) hel
     have hexec : ∀ (b : Option Addr) (l c : Nat) (v : Value) (w' : World), a.eval x = .slice b l c → (Builtin.append_ #[t, u] ty #[.slice b l c, a.eval y]).run P C.w = .ok v w' →
       ∀ dst g, (execOp a.eval ⟨dst, .call { callee := .builtin .append, args := #[x, y], argTypes := #[t, u] }, ty, pos, after, g⟩).run P C.w = .ok (.value v) w' := by
      intro b l c v w' hb hr dst g
      simp [execOp, resolve, invoke, builtin, hb, hr]
     have hax0 := hax
     rw [heq] at hax0
     have hid : id < s.mem.length := (List.getElem?_eq_some_iff.1 ho).1
     have hol : elems (s.mem.set id (.flat cs false)) 1 (.osl id 0 1 l none) = some (l, cs) := by
      have hq : (s.mem.set id (.flat cs false))[id]? = some (.flat cs false) := by rw [zop, if_pos ⟨rfl, hid⟩]
      simp only [elems, hq, Nat.mul_one, zcy cs l hcl, Option.map_some]
     obtain ⟨olds, hg2⟩ := zgb (P := P) (zpx hm ho) hax0 hol
     obtain ⟨a2, e2, hw2, hue2, hcells2⟩ := hm.obj id _ ho
     have hlo : (AObj.text cs).live = true := rfl
     have hof : (AObj.text cs).isFix = false := rfl
     rw [heq] at hax
     generalize hxv : a.eval x = v at hax hg2
     cases hax with
     | osl _ _ _ _ _ c' ad arr e' hid' hl hk' ha hw hss =>
      obtain ⟨arr, fz0, hw, rfl⟩ := hw
      rw [hw] at hw2
      obtain ⟨rfl, rfl, rfl⟩ : arr = a2 ∧ e' = e2 ∧ fz0 = (0, 0) := by simpa using hw2
      rcases Nat.lt_or_ge c' (l + n) with hgt | hroom
      ·
       have hr := znh (P := P) (ty := ty) ht hu hd hi hzi C.w (some ⟨C.σ id, ad, none⟩) l c' n (a.eval y) olds us (hg.len _) (by rw [← hsz, hc1]; exact hg.cells _ rfl) (by rw [← hsz, hc1]; exact hg2.cells _ rfl) hgt (by rw [← hby, hb1, Nat.mul_one]; exact hbd) (by rw [← hby]; exact hb0)
       generalize hrest : Builtin.zeroCells z.cells (grownCap C.w (l + n) c' e - (l + n)) = rest at hr
       have hlt : C.σ id < C.w.heap.size := (Array.getElem?_eq_some_iff.1 hw).1
       have hwk : ∀ b, b < C.w.heap.size → (C.w.drew.alloc (.cells (olds ++ us ++ rest) e)).heap[b]? = C.w.heap[b]? := by
        intro b hb
        rw [zaw, if_neg (show ¬ b = C.w.drew.heap.size by show ¬ b = C.w.heap.size; omega)]
        rfl
       have hnew : (C.w.drew.alloc (.cells (olds ++ us ++ rest) e)).heap[C.w.heap.size]? = some (.cells (olds ++ us ++ rest) e (0, 0)) := by
        rw [zaw, if_pos (show C.w.heap.size = C.w.drew.heap.size from rfl)]
       have hsz3 : ∀ n9 e9, RowAt C.w (C.σ id) n9 e9 → RowAt (C.w.drew.alloc (.cells (olds ++ us ++ rest) e)) (C.σ id) n9 e9 := fun _ _ h => h.same (hwk _ hlt)
       have htr := zcd (nb := C.w.heap.size) hm ho hlo (w' := C.w.drew.alloc (.cells (olds ++ us ++ rest) e)) (fun b hb _ => hwk b hb) hsz3
       refine ⟨_, C.claim C.w.heap.size (C.w.drew.alloc (.cells (olds ++ us ++ rest) e)), fun dst g => .inl (hexec _ l c' _ _ hxv hr dst g), zcc (w' := C.w.drew.alloc (.cells (olds ++ us ++ rest) e)) hm ho hlo (.inr (Nat.le_refl _)) rfl rfl rfl (by rw [World.size_alloc]; exact Nat.le_succ C.w.heap.size) (fun b hb _ => hwk b hb) hsz3 ?_ hs.k hof, hs.env.mono htr, ?_, rfl⟩
       ·refine ⟨olds ++ us ++ rest, e, by simp only [Cx.claim, if_true]; exact hnew, hue, zpy htr hg2.rep (by rw [hg2.count, hg2.size]) hg.rep (fun j hj => ?_) (fun j hj => ?_)⟩
        ·rw [Array.append_assoc, Array.getElem?_append_left hj]
        ·rw [Array.append_assoc, Array.getElem?_append_right (by omega), Array.getElem?_append_left (by omega)]
         congr 1; omega
       ·have hrs : rest.size = (grownCap C.w (l + n) c' e - (l + n)) * P.cellsOf e := by rw [← hrest, zsm, hzs]
        have hge := grownCap_ge C.w (l + n) c' e
        have hσn : (C.claim C.w.heap.size (C.w.drew.alloc (.cells (olds ++ us ++ rest) e))).σ C.n = C.w.heap.size := by simp [Cx.claim]
        rw [hlen]
        conv => arg 4; rw [← hσn]
        refine .osl0 C.n 0 _ _ none _ 0 _ e (by simp [Cx.claim]) (zgk (b := 1) (by rw [Nat.mul_one]; assumption) (by omega)) (fun k hk => by cases hk) (.inl rfl) (by rw [hσn]; exact hnew) (.inr ?_)
        rw [Array.size_append, Array.size_append, hg2.size, hg.size, hrs, hc1, ← Nat.add_mul, ← Nat.add_mul, Nat.zero_add]
        exact Nat.le_of_eq (by congr 1; omega)
      ·
       have hus : us.toList.length = n * 1 := by rw [Array.length_toList, hg.size]
       have hc0 : c' ≠ 0 := by omega
       rcases ha with rfl | h00
       ·have hfit : l * 1 + us.toList.length ≤ arr.size := by
         rw [hus, ← Nat.add_mul]
         rcases hss with h0 | h0
         ·omega
         ·omega
        have hone : ∀ u ∈ us.toList, u.oneCell' = true := zgc hg
        have hst := run_storeCells_at P (C.σ id) (l * 1) e' us.toList 0 arr C.w hw (by rw [Nat.add_zero]; exact hfit) hone
        simp only [Nat.add_zero] at hst
        have hr := zni (P := P) (ty := ty) ht hu hd hi C.w (some ⟨C.σ id, 0, none⟩) l c' n (a.eval y) us (hg.len _) (by rw [← hsz, hc1]; exact hg.cells _ rfl) hroom
         (fun ad' had => by cases had; rw [zam, ← hsz, hc1, Nat.zero_add]; exact hst) (fun h => by cases h)
        have hsp := zpa arr (l * 1) us.toList hfit
        generalize hnr : (arr.toList.take (l * 1) ++ us.toList ++ arr.toList.drop (l * 1 + us.toList.length)).toArray = narr at hr hsp hst
        have hwk : ∀ b, b < C.w.heap.size → b ≠ C.σ id → (C.w.setRow (C.σ id) narr).heap[b]? = C.w.heap[b]? := by
         intro b _ hb
         rw [zoo _ _ _ _ _ hw, if_neg hb]
        have hws : (C.w.setRow (C.σ id) narr).heap[C.σ id]? = some (.cells narr e' (0, 0)) := by
         rw [zoo _ _ _ _ _ hw, if_pos rfl]
        have hsz3 : ∀ n9 e9, RowAt C.w (C.σ id) n9 e9 → RowAt (C.w.setRow (C.σ id) narr) (C.σ id) n9 e9 := by
         intro n0 e0 h0'
         exact h0'.put hw hws hsp
        have htr := zcd (nb := C.σ id) hm ho hlo (w' := C.w.setRow (C.σ id) narr) hwk hsz3
        have hσn : (C.claim (C.σ id) (C.w.setRow (C.σ id) narr)).σ C.n = C.σ id := by simp [Cx.claim]
        have holds : ∀ j : Nat, j < olds.size → arr[j]? = olds[j]? := by
         intro j hj
         obtain ⟨u, hu⟩ : ∃ u, olds[j]? = some u := ⟨_, Array.getElem?_eq_getElem hj⟩
         have h3 := hg2.cells C.w rfl
         simp only [Builtin.firstCells] at h3
         rw [hu]
         have hl2 : l * 1 ≤ arr.size := by omega
         have h4 := run_loadCells (P := P) C.w ⟨C.σ id, 0, none⟩ (l * 1) (fun j => arr.getD j undef) (fun j hj => by
          rw [zam, cell_of_row C.w _ _ arr e' _ hw]
          have : 0 + j < arr.size := by omega
          simp [Array.getD, this, show j < arr.size by omega])
         rw [h4] at h3
         simp only [Result.ok.injEq] at h3
         have h5 := h3.1
         rw [← h5] at hu
         have hj2 : j < l * 1 := by rw [← hg2.size]; exact hj
         have hja : j < arr.size := by omega
         have hj3 : j < l := by omega
         simp [hj3] at hu
         simp [Array.getD, hja] at hu
         rw [Array.getElem?_eq_getElem hja, hu]
        refine ⟨_, C.claim (C.σ id) (C.w.setRow (C.σ id) narr), fun dst g => .inl (hexec _ l c' _ _ hxv hr dst g), zcc (w' := C.w.setRow (C.σ id) narr) hm ho hlo (.inl rfl) rfl rfl rfl (by rw [size_setRow]; exact Nat.le_refl _) hwk hsz3 ?_ hs.k hof, hs.env.mono htr, ?_, rfl⟩
        ·refine ⟨narr, e', by simp only [Cx.claim, if_true]; exact hws, hue2, zpy htr hg2.rep (by rw [hg2.count, hg2.size]) hg.rep (fun j hj => ?_) (fun j hj => ?_)⟩
         ·rw [← hnr, zo9 arr _ us.toList hfit, if_neg (by rw [← hg2.size]; omega)]
          exact holds j hj
         ·rw [← hnr, zo9 arr _ us.toList hfit, if_pos (by rw [hg2.size, hus, ← hg.size]; omega), Array.getElem?_toList]
          congr 1; rw [hg2.size]; omega
        ·rw [hlen]
         conv => arg 4; rw [← hσn]
         exact .osl0 C.n 0 _ _ none c' 0 _ e' (by simp [Cx.claim]) (by omega) (fun k hk => by cases hk) (.inl rfl) (by rw [hσn]; exact hws) (by rw [hsp]; exact hss)
       ·omega
    ·cases h
   ·cases h
  ·cases h
end
end Go.EX


set_option linter.unusedVariables false
set_option linter.unusedSimpArgs false
namespace Go.EX
section
variable {num : Names} {P : Program}
variable {ty : TypeId} {pos : String} {after : Array Edge} {a : Act} {C : Cx} {s : St}
theorem zhh {e : TypeId} (h : isU8 P e = true) : P.underlying e = some (.int .u8) := by
 unfold isU8 at h
 split at h
 ·assumption
 ·cases h
theorem y_idxP (hs : SRep num C s a) {t e : TypeId} {len : Nat} {x i : Operand} {x' i' : Src} (hx : trSrc num x = some x') (hi : trSrc num i = some i') (ht : P.underlying t = some (.array len e)) (hk : known P e = true)
  {n : Int} (hn : intOf (s.env.ev i') = some n) (hb : 0 ≤ n ∧ n < len) {y : AV} (hy : (match s.env.ev x' with | .imm (.ptr row o) => some (AV.imm (.ptr row (o + n.toNat * P.cellsOf e))) | .optr id o => some (.optr id (o + n.toNat * P.cellsOf e)) | _ => none) = some y) :
  Yields num P (.indexAddr t x i) ty pos after a C s y s := by
 obtain ⟨inf, d, hinf, hd, hsz, _⟩ := zh1 hk
 obtain ⟨kk, hie, _⟩ := zmw (zpc hs hi) hn
 have h1 := zpc hs hx
 generalize hu : a.eval x = u at h1
 have run : ∀ b o, u = .pointer (some ⟨b, o, none⟩) → ∀ dst g, (execOp a.eval ⟨dst, .indexAddr t x i, ty, pos, after, g⟩).run P C.w = .ok (.value (.pointer (some ⟨b, o + n.toNat * P.cellsOf e, none⟩))) C.w := by
  intro b o hb' dst g
  simp [execOp, hu, hb', hie, Instr.indexAt, asIntOf, run_underlying ht, znz hinf, hb.1, hb.2, zam, hsz, Instr.sureAddr]
 split at hy
 ·rename_i row o heq
  cases hy
  rw [heq] at h1
  cases h1 with
  | imm _ _ h => cases h with
   | ptr _ _ b o' u' hI hc hu' =>
    refine zsl hs (run b (o' + o) rfl) ?_
    rw [Nat.add_assoc]
    exact .imm _ _ (.ptr row _ b o' u' hI hc hu')
 ·rename_i id o heq
  cases hy
  rw [heq] at h1
  cases h1 with
  | optr _ _ hid => exact zsl hs (run (C.σ id) o rfl) (.optr id _ hid)
 ·cases hy
theorem zr9 (hs : SRep num C s a) {mn : Bool} {x y : Operand} {x' y' : Src} {ats : Array TypeId} (hx : trSrc num x = some x') (hy : trSrc num y = some y') {k j : IntKind} {m n : Int} (h1 : s.env.ev x' = .imm (.val (.int k m))) (h2 : s.env.ev y' = .imm (.val (.int j n))) :
  Yields num P (.call { callee := .builtin (if mn then .min else .max), args := #[x, y], argTypes := ats }) ty pos after a C s (.imm (.val (.int k (if mn then (if n < m then n else m) else (if m < n then n else m))))) s := by
 have hu := zpd hs hx h1
 have hv := zpd hs hy h2
 cases mn with
 | true =>
  refine zsl (v := .int k (if n < m then n else m)) hs (fun _ _ => ?_) (.imm _ _ (.val _ rfl))
  simp [execOp, resolve, invoke, builtin, hu, hv, Builtin.min_, Builtin.min2]
 | false =>
  refine zsl (v := .int k (if m < n then n else m)) hs (fun _ _ => ?_) (.imm _ _ (.val _ rfl))
  simp [execOp, resolve, invoke, builtin, hu, hv, Builtin.max_, Builtin.max2]
theorem zqg : ∀ (cs : List IV) (ns : List Int), u8s cs = some ns → ns.length = cs.length ∧ ∀ (j : Nat) x, cs[j]? = some x → ∃ n, x = .val (.int .u8 n) ∧ ns[j]? = some n
 | [], ns, h => by simp [u8s] at h; subst h; simp
 | c :: r, ns, h => by
  unfold u8s at h
  split at h
  ·rename_i he; cases he
  ·rename_i n r' he
   cases he
   simp only [Option.map_eq_some_iff] at h
   obtain ⟨ms, h1, rfl⟩ := h
   obtain ⟨h2, h3⟩ := zqg r ms h1
   refine ⟨by simp [h2], fun j x hx => ?_⟩
   cases j with
   | zero => simp at hx; exact ⟨n, hx.symm, by simp⟩
   | succ j => simpa using h3 j x (by simpa using hx)
  ·cases h
theorem zsj (hs : SRep num C s a) {src dst e : TypeId} {x : Operand} {x' : Src} (hx : trSrc num x = some x') (h1 : P.underlying src = some (.slice e)) (h2 : P.underlying dst = some .string) (he : isU8 P e = true) {b : ByteArray} (hb : strOfV s.mem (s.env.ev x') = some b) :
  Yields num P (.convert src dst x) ty pos after a C s (.imm (.val (.string b))) s := by
 have he' := zhh he
 have hax := zpc hs hx
 unfold strOfV at hb
 split at hb
 ·cases hb
 rename_i hns
 cases hel : elems s.mem 1 (s.env.ev x') with
 | none => rw [hel] at hb; cases hb
 | some nn =>
  obtain ⟨n, cs⟩ := nn
  simp only [hel, Option.map_eq_some_iff] at hb
  obtain ⟨ns, hu, rfl⟩ := hb
  obtain ⟨us, hg⟩ := zgb (P := P) hs.mem hax hel
  obtain ⟨hnl, hng⟩ := zqg cs ns hu
  have hus : us = (ns.map (Value.int .u8)).toArray := by
   apply Array.ext
   ·rw [hg.size, ← hg.count, ← hnl]; simp
   ·intro j hj1 hj2
    have hjc : j < cs.length := by rw [hg.count, ← hg.size]; exact hj1
    obtain ⟨u, hu1, hu2⟩ := hg.rep j cs[j] (List.getElem?_eq_getElem hjc)
    obtain ⟨m, hm1, hm2⟩ := hng j cs[j] (List.getElem?_eq_getElem hjc)
    rw [hm1] at hu2
    cases hu2
    rw [Array.getElem?_eq_getElem hj1] at hu1
    have h3 : us[j] = Value.int .u8 m := Option.some.inj hu1
    rw [h3]
    have h4 : j < ns.length := by omega
    rw [List.getElem?_eq_getElem h4] at hm2
    simp [Option.some.inj hm2]
  have key : ∀ (ad : Option Addr) (l c : Nat), a.eval x = .slice ad l c → n = l → Yields num P (.convert src dst x) ty pos after a C s (.imm (.val (.string (pushAll ns)))) s := by
   intro ad l c hv hnl'
   subst hnl'
   refine zsl (v := .string (pushAll ns)) hs (fun _ _ => ?_) (.imm _ _ (.val _ rfl))
   have hc := hg.cells C.w rfl
   rw [hv] at hc
   cases ad with
   | none =>
    simp only [Builtin.firstCells, Sem.run_pure, Result.ok.injEq, and_true] at hc
    have hz : ns = [] := by
     have := congrArg Array.size hc
     rw [hus] at this
     simp at this
     exact List.eq_nil_of_length_eq_zero this.symm
    subst hz
    simp [execOp, hv, run_convert_bytes_string C.w src dst e none n c h1 he' h2, Conv.bytesToString, pushAll]
   | some ad =>
    simp only [Builtin.firstCells, Nat.mul_one] at hc
    rw [hus] at hc
    have hr := run_bytesToString (P := P) C.w ad n c ns hc
    simp [execOp, hv, run_convert_bytes_string C.w src dst e (some ad) n c h1 he' h2, hr, pushAll]
  generalize hxv : a.eval x = v at hax
  generalize hav : s.env.ev x' = av at hax hel hns
  cases hax with
  | imm z v h =>
   cases h with
   | val v h =>
    unfold elems at hel
    split at hel
    ·rename_i heq
     cases heq
     cases hel
     exact key none 0 0 hxv rfl
    ·rename_i b heq
     cases heq
     exact absurd rfl (hns b)
    ·rename_i heq; cases heq
    ·rename_i heq; cases heq
    ·cases hel
   | slice row off len cap b o c ad u hI hc hu' hl hk ha =>
    simp only [elems, Option.map_eq_some_iff, Prod.mk.injEq] at hel
    obtain ⟨_, _, rfl, _⟩ := hel
    exact key _ _ _ hxv rfl
   | vac row off ad =>
    simp only [elems, Option.map_eq_some_iff, Prod.mk.injEq] at hel
    obtain ⟨_, _, rfl, _⟩ := hel
    exact key _ _ _ hxv rfl
   | ptr => simp [elems] at hel
  | osl id off sz len cap c ad arr e' hid hl hk ha hw hs' =>
   have hn : n = len := by
    simp only [elems] at hel
    split at hel
    ·simp only [Option.map_eq_some_iff, Prod.mk.injEq] at hel; obtain ⟨_, _, rfl, _⟩ := hel; rfl
    ·split at hel
     ·simp only [Option.map_eq_some_iff, Prod.mk.injEq] at hel; obtain ⟨_, _, rfl, _⟩ := hel; rfl
     ·cases hel
    ·simp only [Option.map_eq_some_iff, Prod.mk.injEq] at hel; obtain ⟨_, _, rfl, _⟩ := hel; rfl
    ·simp only [Option.map_eq_some_iff, Prod.mk.injEq] at hel; obtain ⟨_, _, rfl, _⟩ := hel; rfl
    ·cases hel
   exact key _ _ _ hxv hn
  | _ => simp [elems] at hel
theorem zrv (hs : SRep num C s a) {src dst e : TypeId} {x : Operand} {x' : Src} (hx : trSrc num x = some x') (h1 : P.underlying src = some .string) (h2 : P.underlying dst = some (.slice e)) (he : isU8 P e = true) {b : ByteArray} (hb : s.env.ev x' = .imm (.val (.string b))) :
  Yields num P (.convert src dst x) ty pos after a C s (.imm (.slice (rowOfS b) 0 b.size none)) s := by
 have he' := zhh he
 have hu := zpd hs hx hb
 have hm := hs.mem
 have hr := Lib.run_convert_string_bytes (P := P) C.w src dst e b h1 h2 he'
 have hk : ∀ j, j < C.w.heap.size → (Lib.bytesWorld C.w e b).heap[j]? = C.w.heap[j]? := fun j hj => Lib.bytesWorld_at_old C.w e b j hj
 have hsz := Lib.bytesWorld_size C.w e b
 have hos : (Lib.bytesWorld C.w e b).os = C.w.os ∧ (Lib.bytesWorld C.w e b).tape = C.w.tape ∧ (Lib.bytesWorld C.w e b).output = C.w.output := by
  unfold Lib.bytesWorld World.freeze
  split
  ·exact ⟨rfl, rfl, rfl⟩
  ·exact ⟨rfl, rfl, rfl⟩
 refine ⟨.slice (some ⟨C.w.heap.size, 0, none⟩) b.size (grownCap C.w b.size 0 e), { σ := C.σ, I := fun q => C.I q ∨ q = C.w.heap.size, n := C.n, w := Lib.bytesWorld C.w e b }, fun dst g => .inl ?_, zex hm hos.1 hos.2.1 hos.2.2 (by omega) hk (fun _ h => .inl h) (fun q hq => ?_) (fun q hq => ?_) hs.k, hs.env.mono (ext_tr hm hk fun _ h => .inl h), ?_, rfl⟩
 ·simp [execOp, hu, hr]
 ·rcases hq with h | h
  ·exact .inl h
  ·exact .inr (by omega)
 ·rcases hq with h | h
  ·have := hm.bd q h
   show q < (Lib.bytesWorld C.w e b).heap.size
   omega
  ·show q < (Lib.bytesWorld C.w e b).heap.size
   omega
 ·refine .imm _ _ (.slice (rowOfS b) 0 b.size none C.w.heap.size 0 _ _ (fun j => .int .u8 (b.data.toList.getD j 0).toNat) (.inr rfl) (fun j x hx => ?_) (fun j x hx => ?_) (grownCap_ge _ _ _ _) (fun k hk => by cases hk) (.inl rfl))
  ·have hj : j < b.size := by
    have := (List.getElem?_eq_some_iff.1 hx).1
    simpa [rowOfS] using this
   rw [Nat.zero_add]
   exact Lib.bytesWorld_cell C.w e b j hj
  ·have hj : j < b.data.toList.length := by
    have := (List.getElem?_eq_some_iff.1 hx).1
    simpa [rowOfS] using this
   simp only [rowOfS, List.getElem?_map, List.getElem?_eq_getElem hj, Option.map_some, Option.some.injEq] at hx
   subst hx
   simp only [List.getD, List.getElem?_eq_getElem hj, Option.getD_some]
   exact .val _ rfl
theorem y_idxV (hs : SRep num C s a) {t e : TypeId} {len : Nat} {x ix : Operand} {x' ix' : Src} (hx : trSrc num x = some x') (hix : trSrc num ix = some ix') (ht : P.underlying t = some (.array len e)) (hk : known P e = true)
  {ii : Int} (hn : intOf (s.env.ev ix') = some ii) (hb0 : 0 ≤ ii ∧ ii < len) {cs : List AV} (hc : s.env.ev x' = .agg cs) {y : AV} (hy : getCells (aggOf P e) cs (ii.toNat * P.cellsOf e) = some y) :
  Yields num P (.index t x ix) ty pos after a C s y s := by
 obtain ⟨i, d, hi, hd, hsz, _⟩ := zh1 hk
 obtain ⟨kk, hie, _⟩ := zmw (zpc hs hix) hn
 have h1 := zpc hs hx
 rw [hc] at h1
 generalize hu : a.eval x = u at h1
 generalize ho : ii.toNat * P.cellsOf e = o at hy
 cases h1 with
 | agg _ vs hl hone h =>
  have hrun : (Instr.index t (.agg vs) (.int kk ii)).run P C.w = (part e vs o).run P C.w := by
   simp only [Instr.index, asIntOf, Sem.run_bind, Sem.run_pure, Result.andThen_ok, run_underlying ht, hb0.1, hb0.2, and_self, if_true, znz hi]
   rw [← hsz, ho]
  have hag : (isAgg e).run P C.w = .ok (aggOf P e).isSome C.w := zns hd C.w
  cases hagg : aggOf P e with
  | none =>
   rw [hagg] at hag hy
   simp only [getCells] at hy
   have hi' : o < vs.size := by rw [← hl]; exact (List.getElem?_eq_some_iff.1 hy).1
   refine zsl (v := vs[o]) hs (fun _ _ => ?_) (h _ y _ hy (by simp [hi']))
   have hp : (part e vs o).run P C.w = .ok vs[o] C.w := by simp [part, hag, hi']
   simp only [execOp, hu, hie, Sem.run_bind, hrun, hp, Result.andThen_ok, Sem.run_pure]
  | some n =>
   have hn : n = P.cellsOf e := by
    unfold aggOf at hagg
    rw [hd] at hagg
    cases d <;> simp at hagg <;> exact hagg.symm
   rw [hagg] at hag hy
   simp only [getCells] at hy
   cases hc' : cut cs o n with
   | none => simp [hc'] at hy
   | some r =>
    simp [hc'] at hy
    subst hy
    have hrl := zct hc'
    have hb : n = 0 ∨ o + n ≤ cs.length := by
     rcases Nat.eq_zero_or_pos n with h0 | h0
     ·exact .inl h0
     ·right
      have h2 := zcs hc' (n - 1) (by omega)
      rw [List.getElem?_eq_getElem (l := r) (i := n - 1) (by omega)] at h2
      have := (List.getElem?_eq_some_iff.1 h2).1
      omega
    have hex : ∀ j, j < n → (vs.extract o (o + n))[j]? = vs[o + j]? := by
     intro j hj
     rw [Array.getElem?_extract]
     rw [if_pos (by rcases hb with h0 | h0 <;> omega)]
    have hp : (part e vs o).run P C.w = .ok (.agg (vs.extract o (o + n))) C.w := by
     simp only [part, Sem.run_bind, hag, Result.andThen_ok, Option.isSome_some, if_true, znz hi, Sem.run_pure]
     rw [← hsz, ← hn]
    refine zsl (v := .agg (vs.extract o (o + n))) hs (fun _ _ => ?_) ?_
    ·simp only [execOp, hu, hie, Sem.run_bind, hrun, hp, Result.andThen_ok, Sem.run_pure]
    ·have hsize : (vs.extract o (o + n)).size = n := by
      rcases hb with rfl | hb
      ·simp; omega
      ·simp only [Array.size_extract]; omega
     refine .agg r _ (by rw [hrl, hsize]) ?_ ?_
     ·intro j u hj
      have hj' : j < n := by rw [← hsize]; exact (Array.getElem?_eq_some_iff.1 hj).1
      rw [hex j hj'] at hj
      exact hone _ u hj
     ·intro j y u hy' hj
      have hj' : j < n := by rw [← hsize]; exact (Array.getElem?_eq_some_iff.1 hj).1
      rw [hex j hj'] at hj
      exact h (o + j) y u (by rw [zcs hc' j hj']; exact hy') hj
end
end Go.EX


set_option linter.unusedVariables false
set_option linter.unusedSimpArgs false
namespace Go.EX
section
variable {num : Names} {P : Program}
variable {ty : TypeId} {pos : String} {after : Array Edge} {a : Act} {C : Cx} {s : St}
theorem zik (m : Mem) (agg : Option Nat) (y : IV) : loadAt m agg (.imm y) = loadAt [] agg (.imm y) := by cases y <;> rfl
theorem zku {place : Nat → Option (Nat × Nat)} {ps : List (Nat × Operand)} {α : Type} {f : List (Nat × Nat × Src) → α} {y : α} (h : (trParts num place ps).map f = some y) : ∃ qs, trParts num place ps = some qs ∧ f qs = y := by
 simpa [Option.map_eq_some_iff] using h
theorem zpb {x : Operand} {α : Type} {f : Src → α} {y : α} (h : (trSrc num x).map f = some y) : ∃ z, trSrc num x = some z ∧ f z = y := by
 simpa [Option.map_eq_some_iff] using h
def Does (num : Names) (P : Program) (op : Op) (ty : TypeId) (pos : String) (after : Array Edge) (a : Act) (C : Cx) (s : St) (x : AV) (s' : St) : Prop :=
 Yields num P op ty pos after a C s x s' ∨ CallsTo num P op ty pos after a C s x s' ∨ GoesRound num P op ty pos after a C s x s'
theorem zeb {call : Calls'} (hcall : CallOK num P call) (hs : SRep num C s a) {op : Op} {x : XOp} (htr : trOp P num op = some x.wipe) {r : AV} {s' : St} (h : exOp call s x = some (r, s')) : Does num P op ty pos after a C s r s' := by
 cases op with
 | move o =>
  simp only [trOp] at htr
  obtain ⟨z, hz, hx⟩ := zpb htr
  cases x <;> simp only [XOp.wipe, XOp.mv.injEq, reduceCtorEq] at hx
  ·subst hx; cases h; exact .inl (y_mv hs hz)
  ·subst hx; exact .inl (y_frz hs hz h)
  ·cases h
 | assign o =>
  simp only [trOp] at htr
  obtain ⟨z, hz, hx⟩ := zpb htr
  cases x <;> simp only [XOp.wipe, XOp.mv.injEq, reduceCtorEq] at hx
  ·subst hx; cases h; exact .inl (zrs hs hz)
  ·subst hx; exact .inl (y_frzA hs hz h)
  ·cases h
 | pick c o1 o2 =>
  simp only [trOp] at htr
  split at htr
  ·rename_i c' a' b' e1 e2 e3
   simp only [Option.some.injEq] at htr
   cases x <;> simp only [XOp.wipe, XOp.pick.injEq, reduceCtorEq] at htr
   obtain ⟨rfl, rfl, rfl⟩ := htr
   simp only [exOp] at h
   split at h
   ·rename_i t ht
    cases h
    exact .inl (y_pick hs e1 e2 e3 ht)
   ·cases h
  ·cases htr
 | alloc t =>
  simp only [trOp] at htr
  split at htr
  ·rename_i zs hz
   split at htr
   ·rename_i hone
    split at htr
    ·rename_i off hoff
     simp only [Option.some.injEq] at htr
     cases x <;> simp only [XOp.wipe, XOp.allocB.injEq, reduceCtorEq] at htr
     obtain ⟨rfl, rfl⟩ := htr
     cases h
     exact .inl (zrm hcall.seat hs hz hone hoff)
    ·simp only [Option.some.injEq] at htr
     cases x <;> simp only [XOp.wipe, XOp.alloc.injEq, reduceCtorEq] at htr
     subst htr
     cases h
     exact .inl (zrl hs hz hone)
   ·cases htr
  ·cases htr
 | box t o =>
  simp only [trOp] at htr
  split at htr
  ·have plain : ∀ (htr : (trSrc num o).map (XOp.box (P.cellsOf t)) = some x.wipe), Does num P (.box t o) ty pos after a C s r s' := by
    intro htr
    obtain ⟨z, hz, hx⟩ := zpb htr
    cases x <;> simp only [XOp.wipe, XOp.box.injEq, reduceCtorEq] at hx
    obtain ⟨rfl, rfl⟩ := hx
    simp only [exOp] at h
    cases hc : (s.env.ev z).cells with
    | none => simp [hc] at h
    | some cs => rw [hc] at h; cases h; exact .inl (y_box hs hz hc)
   split at htr
   ·rename_i zs hzs
    split at htr
    ·rename_i off hoff
     split at htr
     ·rename_i hlen
      obtain ⟨z, hz, hx⟩ := zpb htr
      cases x <;> simp only [XOp.wipe, XOp.boxB.injEq, reduceCtorEq] at hx
      obtain ⟨rfl, rfl, rfl⟩ := hx
      simp only [exOp] at h
      cases hc : (s.env.ev z).cells with
      | none => simp [hc] at h
      | some cs =>
       rw [hc] at h
       dsimp only at h
       split at h
       ·rename_i hcl
        split at h
        ·rename_i hnil
         cases h
         exact .inl (y_boxB hcall.seat hs hz hc hoff (by omega) hnil)
        ·cases h
       ·cases h
     ·cases htr
    ·exact plain htr
   ·exact plain htr
  ·cases htr
 | build t ps =>
  simp only [trOp] at htr
  split at htr
  ·cases htr
  ·rename_i zs hz
   split at htr
   ·cases htr
   ·rename_i hone
    have hone' : zs.all oneCellV = true := by simpa using hone
    split at htr
    ·rename_i fs ht
     split at htr
     ·rename_i hk
      obtain ⟨qs, hq, hx⟩ := zku htr
      cases x <;> simp only [XOp.wipe, XOp.build.injEq, reduceCtorEq] at hx
      obtain ⟨rfl, rfl⟩ := hx
      simp only [exOp] at h
      cases hf : fillAll (imZ zs) (qs.map fun (o, n, x) => (o, n, s.env.ev x)) with
      | none => rw [hf] at h; cases h
      | some cs => rw [hf] at h; cases h; exact .inl (zrt hs hz hone' hq (.inl ⟨fs, ht, hk, rfl⟩) hf)
     ·cases htr
    ·rename_i n e ht
     split at htr
     ·rename_i hk
      obtain ⟨qs, hq, hx⟩ := zku htr
      cases x <;> simp only [XOp.wipe, XOp.build.injEq, reduceCtorEq] at hx
      obtain ⟨rfl, rfl⟩ := hx
      simp only [exOp] at h
      cases hf : fillAll (imZ zs) (qs.map fun (o, n, x) => (o, n, s.env.ev x)) with
      | none => rw [hf] at h; cases h
      | some cs => rw [hf] at h; cases h; exact .inl (zrt hs hz hone' hq (.inr ⟨n, e, ht, hk, rfl⟩) hf)
     ·cases htr
    ·cases htr
 | buildSlice t len ps =>
  simp only [trOp] at htr
  split at htr
  ·rename_i e ht
   split at htr
   ·rename_i zs hz
    split at htr
    ·rename_i hc
     simp only [Bool.and_eq_true, decide_eq_true_eq] at hc
     obtain ⟨⟨⟨⟨hk, hone⟩, hbig⟩, h0⟩, hzl⟩ := hc
     obtain ⟨qs, hq, hx⟩ := zku htr
     cases x <;> simp only [XOp.wipe, XOp.buildSlice.injEq, reduceCtorEq] at hx
     obtain ⟨rfl, rfl, rfl, rfl⟩ := hx
     simp only [exOp] at h
     cases hf : fillAll (imZ (copies len zs)) (qs.map fun (o, n, x) => (o, n, s.env.ev x)) with
     | none => rw [hf] at h; cases h
     | some cs => rw [hf] at h; cases h; exact .inl (zru hs ht hz hk hone hbig h0 hzl hq hf)
    ·cases htr
   ·cases htr
  ·cases htr
 | load t o =>
  simp only [trOp] at htr
  split at htr
  ·rename_i hk
   obtain ⟨z, hz, hx⟩ := zpb htr
   cases x <;> simp only [XOp.wipe, XOp.load.injEq, reduceCtorEq] at hx
   ·obtain ⟨rfl, rfl⟩ := hx
    simp only [exOp] at h
    cases hl : loadAt s.mem (aggOf P t) (s.env.ev z) with
    | none => rw [hl] at h; cases h
    | some v => rw [hl] at h; cases h; exact .inl (y_load hs hk hz hl)
   ·obtain ⟨rfl, rfl⟩ := hx
    simp only [exOp] at h
    split at h
    ·rename_i y hy
     have hl : loadAt s.mem (aggOf P t) (s.env.ev z) = loadAt [] (aggOf P t) (.imm y) := by rw [hy]; exact zik s.mem _ y
     cases hl' : loadAt [] (aggOf P t) (.imm y) with
     | none => rw [hl'] at h; cases h
     | some v => rw [hl'] at h; cases h; exact .inl (y_load hs hk hz (hl.trans hl'))
    ·cases h
  ·cases htr
 | store t o1 o2 =>
  simp only [trOp] at htr
  split at htr
  ·rename_i hk
   split at htr
   ·rename_i p' x' e1 e2
    simp only [Option.some.injEq] at htr
    cases x <;> simp only [XOp.wipe, XOp.store.injEq, reduceCtorEq] at htr
    ·obtain ⟨rfl, rfl, rfl⟩ := htr
     simp only [exOp] at h
     split at h
     ·rename_i cs hc
      split at h
      ·rename_i hn
       cases hst : storeAt s.mem (s.env.ev p') cs with
       | none => rw [hst] at h; cases h
       | some m => rw [hst] at h; cases h; exact .inl (zsi hs hk e1 e2 hc hn hst)
      ·cases h
     ·cases h
    ·obtain ⟨rfl, rfl, rfl⟩ := htr
     simp only [exOp] at h
     split at h
     ·rename_i cs hc
      split at h
      ·rename_i hn
       cases hst : storeAt s.mem (s.env.ev p') cs with
       | none => rw [hst] at h; cases h
       | some m =>
        rw [hst] at h
        simp only at h
        split at h
        ·rename_i hm
         cases h
         have := zsi (ty := ty) (pos := pos) (after := after) hs hk e1 e2 hc hn hst
         rw [hm] at this
         exact .inl this
        ·cases h
      ·cases h
     ·cases h
   ·cases htr
  ·cases htr
 | nilCheck o =>
  simp only [trOp] at htr
  obtain ⟨z, hz, hx⟩ := zpb htr
  cases x <;> simp only [XOp.wipe, XOp.nilCheck.injEq, reduceCtorEq] at hx
  subst hx
  simp only [exOp] at h
  split at h
  ·rename_i hn; cases h; exact .inl (zsc hs hz hn)
  ·cases h
 | binOp op t o1 o2 yt =>
  simp only [trOp] at htr
  have bin : ∀ (x' y' : Src), trSrc num o1 = some x' → trSrc num o2 = some y' → x.wipe = .bin op x' y' → Does num P (.binOp op t o1 o2 yt) ty pos after a C s r s' := by
   intro x' y' e1 e2 hx
   cases x <;> simp only [XOp.wipe, XOp.bin.injEq, reduceCtorEq] at hx
   obtain ⟨rfl, rfl, rfl⟩ := hx
   simp only [exOp] at h
   split at h
   ·rename_i u v hu hv
    simp only [Option.map_eq_some_iff, Prod.mk.injEq] at h
    obtain ⟨q, hq, rfl, rfl⟩ := h
    exact .inl (y_bin hs e1 e2 hu hv hq)
   ·cases h
  split at htr
  ·rename_i e1 e2; exact bin _ _ e1 e2 (Option.some.inj htr).symm
  ·rename_i e1 e2; exact bin _ _ e1 e2 (Option.some.inj htr).symm
  ·rename_i x' y' ht e1 e2
   have hx := (Option.some.inj htr).symm
   cases x <;> simp only [XOp.wipe, XOp.binB.injEq, reduceCtorEq] at hx
   obtain ⟨rfl, rfl, rfl⟩ := hx
   simp only [exOp] at h
   split at h
   ·rename_i u v hu hv
    simp only [Option.map_eq_some_iff, Prod.mk.injEq] at h
    obtain ⟨q, hq, rfl, rfl⟩ := h
    exact .inl (y_binB hs e1 e2 ht hu hv hq)
   ·cases h
  ·rename_i fs x' y' ht e1 e2
   split at htr
   ·rename_i ks hf
    have hx := (Option.some.inj htr).symm
    cases x <;> simp only [XOp.wipe, XOp.eqCells.injEq, reduceCtorEq] at hx
    obtain ⟨rfl, rfl, rfl, rfl⟩ := hx
    simp only [exOp] at h
    split at h
    ·rename_i xs ys h1 h2
     simp only [Option.map_eq_some_iff, Prod.mk.injEq] at h
     obtain ⟨b, hb, rfl, rfl⟩ := h
     exact .inl (zr0 (neg := false) hs e1 e2 hf h1 h2 hb)
    ·cases h
   ·rename_i ks hf
    have hx := (Option.some.inj htr).symm
    cases x <;> simp only [XOp.wipe, XOp.eqCells.injEq, reduceCtorEq] at hx
    obtain ⟨rfl, rfl, rfl, rfl⟩ := hx
    simp only [exOp] at h
    split at h
    ·rename_i xs ys h1 h2
     simp only [Option.map_eq_some_iff, Prod.mk.injEq] at h
     obtain ⟨b, hb, rfl, rfl⟩ := h
     exact .inl (zr0 (neg := true) hs e1 e2 hf h1 h2 hb)
    ·cases h
   ·cases htr
  ·rename_i d x' y' _ _ _ _ ht e1 e2
   split at htr
   ·rename_i k hk
    have hx := (Option.some.inj htr).symm
    cases x <;> simp only [XOp.wipe, XOp.eqNil.injEq, reduceCtorEq] at hx
    obtain ⟨rfl, rfl, rfl⟩ := hx
    simp only [exOp, Option.map_eq_some_iff, Prod.mk.injEq] at h
    obtain ⟨b, hb, rfl, rfl⟩ := h
    exact .inl (zr1 (neg := false) hs e1 ht hk hb)
   ·rename_i k hk
    have hx := (Option.some.inj htr).symm
    cases x <;> simp only [XOp.wipe, XOp.eqNil.injEq, reduceCtorEq] at hx
    obtain ⟨rfl, rfl, rfl⟩ := hx
    simp only [exOp, Option.map_eq_some_iff, Prod.mk.injEq] at h
    obtain ⟨b, hb, rfl, rfl⟩ := h
    exact .inl (zr1 (neg := true) hs e1 ht hk hb)
   ·cases htr
  ·cases htr
 | unOp op t o =>
  simp only [trOp] at htr
  obtain ⟨z, hz, hx⟩ := zpb htr
  cases x <;> simp only [XOp.wipe, XOp.un.injEq, reduceCtorEq] at hx
  obtain ⟨rfl, rfl⟩ := hx
  simp only [exOp] at h
  split at h
  ·rename_i u hu
   cases hr : valUn op u with
   | none => rw [hr] at h; cases h
   | some q => rw [hr] at h; cases h; exact .inl (y_un hs hz hu hr)
  ·cases h
 | convert src dst o =>
  simp only [trOp] at htr
  split at htr
  ·rename_i j k z h1 h2 hz
   simp only [Option.some.injEq] at htr
   cases x <;> simp only [XOp.wipe, XOp.conv.injEq, reduceCtorEq] at htr
   obtain ⟨rfl, rfl⟩ := htr
   simp only [exOp] at h
   cases hi : intOf (s.env.ev z) with
   | none => rw [hi] at h; cases h
   | some i => rw [hi] at h; cases h; exact .inl (y_conv hs hz h1 h2 hi)
  ·rename_i z h1 h2 hz
   simp only [Option.some.injEq] at htr
   cases x <;> simp only [XOp.wipe, XOp.convS.injEq, reduceCtorEq] at htr
   subst htr
   simp only [exOp] at h
   split at h
   ·rename_i b hb; cases h; exact .inl (zry hs hz h1 h2 hb)
   ·cases h
  ·rename_i e z h1 h2 hz
   split at htr
   ·rename_i he
    simp only [Option.some.injEq] at htr
    cases x <;> simp only [XOp.wipe, XOp.strOf.injEq, reduceCtorEq] at htr
    subst htr
    simp only [exOp, Option.map_eq_some_iff, Prod.mk.injEq] at h
    obtain ⟨b, hb, rfl, rfl⟩ := h
    exact .inl (zsj hs hz h1 h2 he hb)
   ·cases htr
  ·rename_i e z h1 h2 hz
   split at htr
   ·rename_i he
    simp only [Option.some.injEq] at htr
    cases x <;> simp only [XOp.wipe, XOp.bytesOf.injEq, reduceCtorEq] at htr
    subst htr
    simp only [exOp] at h
    split at h
    ·rename_i b hb; cases h; exact .inl (zrv hs hz h1 h2 he hb)
    ·cases h
   ·cases htr
  ·cases htr
 | makeFunc fn first caps =>
  cases fn <;> simp only [trOp] at htr <;> first | (cases htr; done) | skip
  rename_i f
  split at htr
  ·rename_i hfirst
   have : first = #[] := by simpa using hfirst
   subst this
   simp only [Option.map_eq_some_iff] at htr
   obtain ⟨cs, hcs, hx⟩ := htr
   cases x <;> simp only [XOp.wipe, XOp.mkClo.injEq, reduceCtorEq] at hx
   obtain ⟨rfl, rfl⟩ := hx
   cases h
   exact .inl (zsa hs hcs)
  ·cases htr
 | makeSlice t l c =>
  simp only [trOp] at htr
  split at htr
  ·rename_i e ht
   split at htr
   ·rename_i zs l' c' hz e1 e2
    split at htr
    ·rename_i hc
     simp only [Bool.and_eq_true, decide_eq_true_eq] at hc
     obtain ⟨⟨⟨hk, hzl⟩, h0⟩, hone⟩ := hc
     simp only [Option.some.injEq] at htr
     cases x <;> simp only [XOp.wipe, XOp.makeSlice.injEq, reduceCtorEq] at htr
     obtain ⟨rfl, rfl, rfl, rfl, rfl⟩ := htr
     simp only [exOp] at h
     split at h
     ·rename_i i j hi hj
      split at h
      ·rename_i hb
       cases h
       exact .inl (zr7 hs ht hz hk hone h0 hzl e1 e2 hi hj hb)
      ·cases h
     ·cases h
    ·cases htr
   ·cases htr
  ·cases htr
 | slice t o lo hi mx =>
  cases mx with
  | some m =>
   cases lo with
   | some _ => simp [trOp] at htr
   | none => cases hi with
    | none => simp [trOp] at htr
    | some hh =>
     simp only [trOp] at htr
     split at htr
     ·rename_i e z h' m' ht hz h1 h2
      split at htr
      ·rename_i hk
       simp only [Option.some.injEq] at htr
       cases x <;> simp only [XOp.wipe, XOp.slice3.injEq, reduceCtorEq] at htr
       obtain ⟨rfl, rfl, rfl, rfl⟩ := htr
       simp only [exOp] at h
       cases hy : exSlice3 (P.cellsOf e) (s.env.ev z) (s.env.ev h') (s.env.ev m') with
       | none => rw [hy] at h; cases h
       | some y => rw [hy] at h; cases h; exact .inl (zsg hs hz h1 h2 ht hk hy)
      ·cases htr
     ·cases htr
  | none =>
   simp only [trOp] at htr
   split at htr
   ·rename_i e z lo' hi' ht hz hl hh
    split at htr
    ·rename_i hk
     simp only [Option.some.injEq] at htr
     cases x <;> simp only [XOp.wipe, XOp.slice.injEq, reduceCtorEq] at htr
     obtain ⟨rfl, rfl, rfl, rfl⟩ := htr
     simp only [exOp] at h
     cases hy : exSlice (P.cellsOf e) (s.env.ev z) (lo'.map s.env.ev) (hi'.map s.env.ev) with
     | none => rw [hy] at h; cases h
     | some y => rw [hy] at h; cases h; exact .inl (zsf hs hz hl hh ht hk hy)
    ·cases htr
   ·rename_i z lo' hi' ht hz hl hh
    simp only [Option.some.injEq] at htr
    cases x <;> simp only [XOp.wipe, XOp.sliceS.injEq, reduceCtorEq] at htr
    obtain ⟨rfl, rfl, rfl⟩ := htr
    simp only [exOp] at h
    split at h
    ·rename_i b hb
     cases hbd : bounds b.size b.size (lo'.map s.env.ev) (hi'.map s.env.ev) with
     | none => rw [hbd] at h; cases h
     | some lh => obtain ⟨l, hh'⟩ := lh; rw [hbd] at h; cases h; exact .inl (zsh hs hz hl hh ht hb hbd)
    ·cases h
   ·cases htr
 | fieldAddr t o f =>
  simp only [trOp] at htr
  split at htr
  ·rename_i fs z ht hz
   split at htr
   ·rename_i fd hf
    split at htr
    ·rename_i hc
     simp only [Bool.and_eq_true, decide_eq_true_eq] at hc
     simp only [Option.some.injEq] at htr
     cases x <;> simp only [XOp.wipe, XOp.fieldA.injEq, reduceCtorEq] at htr
     obtain ⟨rfl, rfl⟩ := htr
     simp only [exOp] at h
     refine .inl ?_
     split at h
     ·rename_i row o' heq; cases h; exact zr4 hs hz ht hf hc.1 hc.2 (by rw [heq])
     ·rename_i b0 a0 row o' heq; cases h; exact zr4 hs hz ht hf hc.1 hc.2 (by rw [heq])
     ·rename_i id o' heq; cases h; exact zr4 hs hz ht hf hc.1 hc.2 (by rw [heq])
     ·cases h
    ·cases htr
   ·cases htr
  ·cases htr
 | field t o f =>
  simp only [trOp] at htr
  split at htr
  ·rename_i fs z ht hz
   split at htr
   ·rename_i fd hf
    split at htr
    ·rename_i hc
     simp only [Option.some.injEq] at htr
     cases x <;> simp only [XOp.wipe, XOp.field.injEq, reduceCtorEq] at htr
     obtain ⟨rfl, rfl, rfl⟩ := htr
     simp only [exOp] at h
     split at h
     ·rename_i cs heq
      cases hg : getCells (aggOf P fd.type) cs fd.offset with
      | none => rw [hg] at h; cases h
      | some y => rw [hg] at h; cases h; exact .inl (zr3 hs hz ht hf hc heq hg)
     ·cases h
    ·cases htr
   ·cases htr
  ·cases htr
 | indexAddr t o i =>
  simp only [trOp] at htr
  split at htr
  ·rename_i e z i' ht hz hi
   split at htr
   ·rename_i hk
    simp only [Option.some.injEq] at htr
    cases x <;> simp only [XOp.wipe, XOp.idxA.injEq, reduceCtorEq] at htr
    obtain ⟨rfl, rfl, rfl⟩ := htr
    simp only [exOp] at h
    split at h
    ·cases h
    ·rename_i n hn
     refine .inl ?_
     split at h
     ·rename_i row off len cap heq
      split at h
      ·rename_i hb; cases h; exact y_idxA hs hz hi ht hk hn (by rw [heq]; simp only [hb, and_self, if_true])
      ·cases h
     ·rename_i b0 a0 row off len cap heq
      split at h
      ·rename_i hb; cases h; exact y_idxA hs hz hi ht hk hn (by rw [heq]; simp only [hb, and_self, if_true])
      ·cases h
     ·rename_i id off sz len cap heq
      split at h
      ·rename_i hb; cases h; exact y_idxA hs hz hi ht hk hn (by rw [heq]; simp only [hb, and_self, if_true])
      ·cases h
     ·cases h
   ·cases htr
  ·rename_i len e z i' ht hz hi
   split at htr
   ·rename_i hk
    simp only [Option.some.injEq] at htr
    cases x <;> simp only [XOp.wipe, XOp.idxP.injEq, reduceCtorEq] at htr
    obtain ⟨rfl, rfl, rfl, rfl⟩ := htr
    simp only [exOp] at h
    split at h
    ·cases h
    ·rename_i n hn
     refine .inl ?_
     split at h
     ·rename_i hb
      split at h
      ·rename_i row o heq; cases h; exact y_idxP hs hz hi ht hk hn hb (by rw [heq])
      ·rename_i id o heq; cases h; exact y_idxP hs hz hi ht hk hn hb (by rw [heq])
      ·cases h
     ·cases h
   ·cases htr
  ·cases htr
 | index t o i =>
  simp only [trOp] at htr
  split at htr
  ·rename_i z i' ht hz hi
   simp only [Option.some.injEq] at htr
   cases x <;> simp only [XOp.wipe, XOp.idxS.injEq, reduceCtorEq] at htr
   obtain ⟨rfl, rfl⟩ := htr
   simp only [exOp] at h
   split at h
   ·rename_i n b hn hb
    split at h
    ·rename_i h0
     split at h
     ·rename_i c hc; cases h; exact .inl (y_idxS hs hz hi ht hn hb h0 hc)
     ·cases h
    ·cases h
   ·cases h
  ·rename_i len e z i' ht hz hi
   split at htr
   ·rename_i hk
    simp only [Option.some.injEq] at htr
    cases x <;> simp only [XOp.wipe, XOp.idxV.injEq, reduceCtorEq] at htr
    obtain ⟨rfl, rfl, rfl, rfl, rfl⟩ := htr
    simp only [exOp] at h
    split at h
    ·cases h
    ·rename_i n hn
     split at h
     ·rename_i hb
      split at h
      ·rename_i cs heq
       simp only [Option.map_eq_some_iff, Prod.mk.injEq] at h
       obtain ⟨v, hv, rfl, rfl⟩ := h
       exact .inl (y_idxV hs hz hi ht hk hn hb heq hv)
      ·cases h
     ·cases h
   ·cases htr
  ·cases htr
 | extract o i =>
  simp only [trOp] at htr
  obtain ⟨z, hz, hx⟩ := zpb htr
  cases x <;> simp only [XOp.wipe, XOp.extract.injEq, reduceCtorEq] at hx
  obtain ⟨rfl, rfl⟩ := hx
  simp only [exOp] at h
  split at h
  ·rename_i vs hv
   cases hy : vs[i]? with
   | none => rw [hy] at h; cases h
   | some y => rw [hy] at h; cases h; exact .inl (zr2 hs hz hv hy)
  ·cases h
 | call c =>
  simp only [trOp] at htr
  obtain ⟨callee, args, ats⟩ := c
  cases callee with
  | invoke => simp [trCall] at htr
  | builtin b =>
   obtain ⟨al⟩ := args
   obtain ⟨tl⟩ := ats
   simp only [trCall] at htr
   split at htr
   ·rename_i o t
    split at htr
    ·rename_i ht
     obtain ⟨z, hz, hx⟩ := zpb htr
     cases x <;> simp only [XOp.wipe, XOp.lenS.injEq, reduceCtorEq] at hx
     subst hx
     simp only [exOp] at h
     split at h
     ·rename_i b hb; cases h; exact .inl (y_lenS hs hz ht hb)
     ·cases h
    ·rename_i e ht
     obtain ⟨z, hz, hx⟩ := zpb htr
     cases x <;> simp only [XOp.wipe, XOp.len.injEq, reduceCtorEq] at hx
     subst hx
     simp only [exOp, Option.map_eq_some_iff, Prod.mk.injEq] at h
     obtain ⟨n, hn, rfl, rfl⟩ := h
     exact .inl (y_len hs hz ht hn)
    ·rename_i kt e ht
     obtain ⟨z, hz, hx⟩ := zpb htr
     cases x <;> simp only [XOp.wipe, XOp.lenM.injEq, reduceCtorEq] at hx
     subst hx
     exact .inl (y_lenM hs hz ht h)
    ·cases htr
   ·rename_i o1 o2 ts
    split at htr
    ·rename_i z1 z2 e1 e2
     have hx := (Option.some.inj htr).symm
     cases x <;> simp only [XOp.wipe, XOp.minmax.injEq, reduceCtorEq] at hx
     obtain ⟨rfl, rfl, rfl⟩ := hx
     simp only [exOp] at h
     split at h
     ·rename_i k m j n h1 h2; cases h; exact .inl (zr9 (mn := true) hs e1 e2 h1 h2)
     ·cases h
    ·cases htr
   ·rename_i o1 o2 ts
    split at htr
    ·rename_i z1 z2 e1 e2
     have hx := (Option.some.inj htr).symm
     cases x <;> simp only [XOp.wipe, XOp.minmax.injEq, reduceCtorEq] at hx
     obtain ⟨rfl, rfl, rfl⟩ := hx
     simp only [exOp] at h
     split at h
     ·rename_i k m j n h1 h2; cases h; exact .inl (zr9 (mn := false) hs e1 e2 h1 h2)
     ·cases h
    ·cases htr
   ·rename_i o t
    split at htr
    ·rename_i e ht
     obtain ⟨z, hz, hx⟩ := zpb htr
     cases x <;> simp only [XOp.wipe, XOp.cap.injEq, reduceCtorEq] at hx
     subst hx
     simp only [exOp, Option.map_eq_some_iff, Prod.mk.injEq] at h
     obtain ⟨n, hn, rfl, rfl⟩ := h
     exact .inl (y_cap hs hz ht hn)
    ·cases htr
   ·rename_i o1 o2 t u
    split at htr
    ·rename_i e d z1 z2 ht hu e1 e2
     split at htr
     ·rename_i hc
      simp only [Bool.and_eq_true, decide_eq_true_eq] at hc
      have hx := (Option.some.inj htr).symm
      cases x <;> simp only [XOp.wipe, XOp.copy.injEq, reduceCtorEq] at hx
      obtain ⟨rfl, rfl, rfl⟩ := hx
      exact .inl (y_copy hs e1 e2 ht hc.1 h)
     ·cases htr
    ·cases htr
   ·rename_i o t
    split at htr
    ·rename_i e z1 ht e1
     split at htr
     ·rename_i zs hz
      split at htr
      ·rename_i hc
       simp only [Bool.and_eq_true, decide_eq_true_eq] at hc
       obtain ⟨⟨⟨hk, hzl⟩, h0⟩, hone⟩ := hc
       have hx := (Option.some.inj htr).symm
       cases x <;> simp only [XOp.wipe, XOp.clear.injEq, reduceCtorEq] at hx
       obtain ⟨rfl, rfl, rfl⟩ := hx
       exact .inl (zrx hs e1 ht hz hk hone h0 hzl h)
      ·cases htr
     ·cases htr
    ·cases htr
   ·rename_i o1 o2 t u
    split at htr
    ·rename_i e d z1 z2 ht hu e1 e2
     split at htr
     ·rename_i hc
      simp only [Bool.and_eq_true, decide_eq_true_eq] at hc
      obtain ⟨⟨⟨⟨⟨hk, h0⟩, hb0⟩, hz⟩, hd⟩, hu8⟩ := hc
      have hx := (Option.some.inj htr).symm
      cases x <;> simp only [XOp.wipe, XOp.append.injEq, reduceCtorEq] at hx
      ·obtain ⟨rfl, rfl, rfl, rfl⟩ := hx
       exact .inl (zrr hs ht hu hd hk h0 hb0 hz e1 e2 h)
      ·obtain ⟨rfl, rfl, rfl, rfl⟩ := hx
       exact .inl (zro hs ht hu hd hk h0 hb0 hz e1 e2 h)
      ·obtain ⟨hc1, hb1, rfl, rfl⟩ := hx
       rw [← hb1] at hu8
       have hu8' : isU8 P e = true := by simpa using hu8
       exact .inl (zrq hcall.byte hs ht hu hd hk h0 hb0 hz hc1.symm hb1.symm hu8' e1 e2 h)
      ·obtain ⟨rfl, rfl, rfl, rfl⟩ := hx
       simp only [exOp] at h
       split at h
       ·rename_i hx
        split at h
        ·cases h
         exact .inl (zrp hs ht hu hd hk h0 hb0 hz e1 e2 hx)
        ·cases h
       ·cases h
     ·cases htr
    ·cases htr
   ·cases htr
  | value fo =>
   cases fo with
   | func f =>
    simp only [trCall, Option.map_eq_some_iff] at htr
    obtain ⟨ys, hy, hx⟩ := htr
    cases x <;> simp only [XOp.wipe, XOp.call.injEq, reduceCtorEq] at hx
    rename_i mode fn as
    obtain ⟨_, rfl, rfl⟩ := hx
    simp only [exOp] at h
    cases mode with
    | view => exact .inr (.inl (y_view hcall hs hy h))
    | own => exact .inr (.inl (y_own hcall hs hy h))
    | share => exact .inr (.inl (zse hcall hs hy h))
    | peek =>
     obtain ⟨rfl, _, h⟩ := zky h
     exact .inr (.inl (zse hcall hs hy h))
    | look => exact .inr (.inl (zse hcall hs hy (zit h)))
    | touch => exact .inr (.inl (zse hcall hs hy (zp6 h)))
   | tmp t =>
    simp only [trCall] at htr
    split at htr
    ·rename_i f' as hf hy
     have hx := (Option.some.inj htr).symm
     cases x <;> simp only [XOp.wipe, XOp.callV.injEq, reduceCtorEq] at hx
     ·obtain ⟨rfl, rfl⟩ := hx
      simp only [exOp] at h
      split at h
      ·rename_i fn caps heq; exact .inr (.inl (zrw hcall hs hf hy heq h))
      ·rename_i id heq; exact .inr (.inr (zsk hcall hs hf hy heq h))
      ·cases h
     ·obtain ⟨rfl, rfl⟩ := hx
      simp only [exOp] at h
      split at h
      ·rename_i fn caps heq
       obtain ⟨rfl, _, h⟩ := zky h
       exact .inr (.inl (zrw hcall hs hf hy heq h))
      ·cases h
     ·obtain ⟨rfl, rfl⟩ := hx
      simp only [exOp] at h
      split at h
      ·rename_i fn caps heq
       split at h
       ·rename_i hx
        split at h
        ·cases h
         exact .inr (.inl (zrw hcall hs hf hy heq (zp6 hx)))
        ·cases h
       ·cases h
      ·cases h
    ·cases htr
   | const v =>
    simp only [trCall] at htr
    split at htr
    ·rename_i f' as hf hy
     have hx := (Option.some.inj htr).symm
     cases x <;> simp only [XOp.wipe, XOp.callV.injEq, reduceCtorEq] at hx
     ·obtain ⟨rfl, rfl⟩ := hx
      simp only [exOp] at h
      split at h
      ·rename_i fn caps heq; exact .inr (.inl (zrw hcall hs hf hy heq h))
      ·rename_i id heq; exact .inr (.inr (zsk hcall hs hf hy heq h))
      ·cases h
     ·obtain ⟨rfl, rfl⟩ := hx
      simp only [exOp] at h
      split at h
      ·rename_i fn caps heq
       obtain ⟨rfl, _, h⟩ := zky h
       exact .inr (.inl (zrw hcall hs hf hy heq h))
      ·cases h
     ·obtain ⟨rfl, rfl⟩ := hx
      simp only [exOp] at h
      split at h
      ·rename_i fn caps heq
       split at h
       ·rename_i hx
        split at h
        ·cases h
         exact .inr (.inl (zrw hcall hs hf hy heq (zp6 hx)))
        ·cases h
       ·cases h
      ·cases h
    ·cases htr
   | global g => simp [trCall, trSrc] at htr
 | range t o =>
  simp only [trOp] at htr
  split at htr
  ·rename_i ht
   obtain ⟨z, hz, hx⟩ := zpb htr
   cases x <;> simp only [XOp.wipe, XOp.rangeS.injEq, reduceCtorEq] at hx
   subst hx
   simp only [exOp] at h
   split at h
   ·rename_i b hb
    cases h
    exact .inl (zsd hs hz ht hb)
   ·cases h
  ·cases htr
 | next o is =>
  cases is with
  | false => simp only [trOp, reduceCtorEq] at htr
  | true =>
   simp only [trOp] at htr
   obtain ⟨z, hz, hx⟩ := zpb htr
   cases x <;> simp only [XOp.wipe, XOp.nextS.injEq, reduceCtorEq] at hx
   subst hx
   simp only [exOp] at h
   split at h
   ·rename_i id hb
    split at h
    ·rename_i b i ho
     exact .inl (zsb hs hz hb ho h)
    ·cases h
   ·cases h
 | makeMap t r =>
  simp only [trOp] at htr
  split at htr
  ·rename_i kt e r' ht hr
   have hx := (Option.some.inj htr).symm
   cases x <;> simp only [XOp.wipe, XOp.makeMap.injEq, reduceCtorEq] at hx
   case litA => cases h
   subst hx
   simp only [exOp] at h
   cases hint : (‹Option Src› : Option Src) with
   | none =>
    rw [hint] at h hr
    cases h
    exact .inl (zr6 hs ht hr fun x hx => by cases hx)
   | some z =>
    rw [hint] at h hr
    simp only at h
    split at h
    ·rename_i i hi
     cases h
     exact .inl (zr6 hs ht hr fun x hx => by cases hx; exact ⟨i, hi⟩)
    ·cases h
  ·cases htr
 | lookup t m k ok =>
  simp only [trOp] at htr
  split at htr
  ·rename_i kt e m' k' ht hm hk
   split at htr
   ·rename_i kind zs agg hkt hz
    have hx := (Option.some.inj htr).symm
    cases x <;> simp only [XOp.wipe, XOp.lookup.injEq, reduceCtorEq] at hx
    case litL => cases h
    obtain ⟨rfl, rfl, rfl, rfl, rfl, rfl⟩ := hx
    exact .inl (zr5 hs ht hm hk hkt hz h)
   ·cases htr
  ·cases htr
 | mapUpdate t m k v | insert t m k v =>
  simp only [trOp] at htr
  split at htr
  ·rename_i kt e m' k' v' ht hm hk hv
   split at htr
   ·rename_i kind hkt
    have hx := (Option.some.inj htr).symm
    cases x <;> simp only [XOp.wipe, XOp.mapSet.injEq, reduceCtorEq] at hx
    case litI => cases h
    obtain ⟨rfl, rfl, rfl, rfl⟩ := hx
    first
     | exact .inl (zr8 hs ht hm hk hv hkt h (.inl rfl))
     | exact .inl (zr8 hs ht hm hk hv hkt h (.inr rfl))
   ·cases htr
  ·cases htr
 | _ => simp [trOp] at htr
end
end Go.EX


set_option linter.unusedVariables false
set_option linter.unusedSimpArgs false
namespace Go.EX
section
variable {num : Names} {P : Program}
abbrev fz (ro : Option Nat) : Fence := { Fence.wide with round := ro }
def Marked (lo : Nat) (C : Cx) (ds : List Deferred) : Prop :=
 ∃ rs : List Nat, ds = rs.map (fun r => { target := .collected r, args := #[] }) ∧ rs.Nodup ∧ ∀ r ∈ rs, lo ≤ r ∧ C.w.heap[r]? = some (.deferred (some [])) ∧ ¬ C.I r
theorem zkn {C : Cx} {m : Mem} (hm : MRep num C m) {b : Nat} (h : Own C m b) : (∃ arr e fz, C.w.heap[b]? = some (.cells arr e fz)) ∨ (∃ es k, C.w.heap[b]? = some (.map es k)) ∨ (∃ R, C.w.heap[b]? = some (.loop R)) ∨ ∃ t i, C.w.heap[b]? = some (.stringIter t i) := by
 obtain ⟨id, o, ho, hlv, rfl⟩ := h
 have h1 := hm.obj id o ho
 cases o with
 | flat => obtain ⟨arr, e, h2, _⟩ := h1; exact .inl ⟨arr, e, _, h2⟩
 | rich => obtain ⟨arr, e, h2, _⟩ := h1; exact .inl ⟨arr, e, _, h2⟩
 | fix => obtain ⟨arr, e, h2, _⟩ := h1; exact .inl ⟨arr, e, _, h2⟩
 | map => obtain ⟨es, k, h2, _⟩ := h1; exact .inr (.inl ⟨es, k, h2⟩)
 | loop => obtain ⟨R, N, h2, _⟩ := h1; exact .inr (.inr (.inl ⟨R, h2⟩))
 | iter => exact .inr (.inr (.inr ⟨_, _, h1⟩))
 | text => obtain ⟨arr, e, h2, _⟩ := h1; exact .inl ⟨arr, e, _, h2⟩
 | dead => cases hlv
theorem Marked.step {lo k : Nat} {C D : Cx} {m m' : Mem} {ds : List Deferred} (h : Marked lo C ds) (hm : MRep num C m) (hst : Step num k C m D m') : Marked lo D ds := by
 obtain ⟨rs, h1, h2, h3⟩ := h
 refine ⟨rs, h1, h2, fun r hr => ?_⟩
 obtain ⟨h4, h5, h6⟩ := h3 r hr
 have hlt := (Array.getElem?_eq_some_iff.1 h5).1
 have hno : ¬ Own C m r := fun ho => by
  rcases zkn hm ho with ⟨_, _, _, h⟩ | ⟨_, _, h⟩ | ⟨_, h⟩ | ⟨_, _, h⟩ <;> rw [h5] at h <;> cases h
 refine ⟨h4, by rw [hst.keep r hlt hno]; exact h5, fun hI => ?_⟩
 rcases hst.imm' r hI with h | h | h
 ·exact h6 h
 ·omega
 ·exact hno h
structure Later (num : Names) (k : Nat) (C : Cx) (m : Mem) (a : Act) (D : Cx) (s' : St) (a' : Act) : Prop where
 rep : SRep num D s' a'
 step : Step num k C m D s'.mem
 k : s'.k = k
 size : a'.tmps.size = a.tmps.size
 marks : ∀ lo, lo ≤ C.w.heap.size → Marked lo C a.defers → Marked lo D a'.defers
theorem Later.trans {k : Nat} {C D E : Cx} {m : Mem} {s s' : St} {a a' a'' : Act} (h : Later num k C m a D s a') (g : Later num k D s.mem a' E s' a'') : Later num k C m a E s' a'' :=
 ⟨g.rep, h.step.trans g.step, g.k, g.size.trans h.size, fun lo hle hl => g.marks lo (Nat.le_trans hle h.step.size) (h.marks lo hle hl)⟩
theorem Later.refl {C : Cx} {s : St} {a : Act} (hs : SRep num C s a) : Later num s.k C s.mem a C s a := ⟨hs, .refl hs.mem hs.k, rfl, rfl, fun _ _ h => h⟩
theorem zly (a : Act) (d : Option Tmp) (v : Value) : (a.put d v).tmps.size = a.tmps.size := by cases d <;> simp [Act.put]
theorem zlw (a : Act) (d : Option Tmp) (v : Value) : (a.put d v).defers = a.defers := by cases d <;> rfl
def St.bind (s : St) (d : Option Nat) (v : AV) : St := match d with
 | some d => { s with env := (d, v) :: s.env }
 | none => s
theorem zbk (s : St) (d : Option Nat) (v : AV) : (s.bind d v).mem = s.mem := by cases d <;> rfl
theorem bind_k (s : St) (d : Option Nat) (v : AV) : (s.bind d v).k = s.k := by cases d <;> rfl
theorem zbj {k N : Nat} {C D : Cx} {m : Mem} {s : St} {a : Act} {d : Option Nat} {x : AV} {v : Value} (hm : MRep num C m) (hN : N ≤ a.tmps.size) (hd : dstOk N d = true) (hst : Step num k C m D s.mem) (he : ERep num D s.env a.tmps) (hx : ARep num D x v) (hk : s.k = k) :
  Later num k C m a D (s.bind d x) (a.put d v) := by
 refine ⟨⟨by rw [zbk]; exact hst.rep, ?_, by rw [bind_k, zbk, hk]; exact hst.len⟩, by rw [zbk]; exact hst, by rw [bind_k, hk], zly .., fun lo _ h => by rw [zlw]; exact h.step hm hst⟩
 cases d with
 | none => exact he
 | some d =>
  have : d < a.tmps.size := Nat.lt_of_lt_of_le (by simpa [dstOk] using hd) hN
  exact he.put this hx
theorem zdc {ro : Option Nat} {op : Op} {ty : TypeId} {pos : String} {after : Array Edge} {a : Act} {C : Cx} {s s' : St} {x : AV} (hm : MRep num C s.mem) (h : Does num P op ty pos after a C s x s') {N : Nat} (hN : N ≤ a.tmps.size) {d : Option Tmp} (hd : dstOk N d = true) (g : Option (Nat × Bool))
  {K : Act → World → Prop} {Q : Exit → Act → World → Prop} (hK : ∀ D a', Later num s.k C s.mem a D (s'.bind d x) a' → (∃ v, a' = a.put d v) → K a' D.w) : Oper.wpIn (fz ro) 0 P ⟨d, op, ty, pos, after, g⟩ a C.w K Q := by
 have hnd : ∀ c, op ≠ .defer c := by
  rintro c rfl
  have hbad : ∀ (r : Result Next), (execOp a.eval ⟨d, .defer c, ty, pos, after, g⟩).run P C.w = r → (∀ dd w, r ≠ .ok (.defer dd) w) → (∀ x w, r ≠ .halt x w) → False := by
   intro r hr h1 h2
   simp only [execOp, Sem.run_bind] at hr
   cases hq : (resolve a.eval c ty).run P C.w with
   | ok v w => rw [hq] at hr; simp only [Result.andThen, Sem.run_pure] at hr; exact h1 _ _ hr.symm
   | halt x w => rw [hq] at hr; simp only [Result.andThen] at hr; exact h2 _ _ hr.symm
  rcases h with ⟨v, D, hrun, _⟩ | ⟨f, vals, hrun, _⟩ | ⟨l, fn, tmps, as, bd, hrun, _⟩
  ·rcases hrun d g with h | ⟨h, _⟩ <;> exact hbad _ h (fun _ _ => by simp) (fun _ _ => by simp)
  ·exact hbad _ (hrun d g) (fun _ _ => by simp) (fun _ _ => by simp)
  ·exact hbad _ (hrun d g) (fun _ _ => by simp) (fun _ _ => by simp)
 unfold Oper.wpIn
 refine ⟨fun _ _ => trivial, ?_⟩
 rw [Oper.semAt_eq _ _ _ hnd]
 rcases h with ⟨v, D, hrun, hst, he, hx, hk⟩ | ⟨f, vals, hrun, hc⟩ | ⟨l, fn, tmps, as, bd, hrun, hc⟩
 ·rcases hrun d g with h | ⟨h, rfl⟩ <;> rw [h]
  ·rw [Oper.uponIn_value]; exact hK D _ (zbj hm hN hd hst he hx hk) ⟨_, rfl⟩
  ·rw [Oper.uponIn_skip]; exact hK D _ (zbj hm hN hd hst he hx hk) ⟨_, rfl⟩
 ·rw [hrun d g, Oper.uponIn_enter]
  refine ⟨fun h => (by cases h), ?_⟩
  refine CallsIn.mono (R := fun e w' => ∃ v D, e = .returned v ∧ D.w = w' ∧ Step num s.k C s.mem D s'.mem ∧ ERep num D s'.env a.tmps ∧ ARep num D x v ∧ s'.k = s.k) (callsIn_wide.2 hc) fun e w' ⟨v, D, he', hw, hst, he, hx, hk⟩ => ?_
  subst he' hw
  exact hK D _ (zbj hm hN hd hst he hx hk) ⟨_, rfl⟩
 ·rw [hrun d g, Oper.uponIn_round]
  refine ⟨fun h => (by cases h), ?_⟩
  have hc' : RoundIn (fz ro) (0 - 1) P l fn tmps as bd C.w (fun e w' => ∃ v D, e = .returned v ∧ D.w = w' ∧ Step num s.k C s.mem D s'.mem ∧ ERep num D s'.env a.tmps ∧ ARep num D x v ∧ s'.k = s.k) := hc
  refine hc'.mono fun e w' ⟨v, D, he', hw, hst, he, hx, hk⟩ => ?_
  subst he' hw
  exact hK D _ (zbj hm hN hd hst he hx hk) ⟨_, rfl⟩
theorem zp7 {N : Nat} {ops : Array Oper} {o : Oper} {x : XO} (h : trOper P num N ops o = some x) : trOp P num o.op = some x.op ∧ trGuard ops o.guard = some x.guard ∧ x.dst = o.dst ∧ dstOk N o.dst = true ∧ ∀ (t : Nat) (b : Bool), x.guard = some (t, b) → t < N := by
 unfold trOper at h
 split at h
 ·rename_i y g h1 h2
  split at h
  ·cases h; rename_i hd; simp only [Bool.and_eq_true] at hd; exact ⟨h1, h2, rfl, hd.1, fun t b hg => by simp only at hg; subst hg; simpa [dstOk] using hd.2⟩
  ·cases h
 ·cases h
theorem zd8 {call : Calls'} {s : St} {o : XO} {s' : St} (h : exOne call s o = some s') :
  (∃ v s1, exOp call s o.op = some (v, s1) ∧ s' = s1.bind o.dst v ∧ (o.guard = none ∨ ∃ t b, o.guard = some (t, b) ∧ s.env.get t = .imm (.val (.bool b)))) ∨
  (s' = s.bind o.dst (.tup []) ∧ ∃ t b, o.guard = some (t, b) ∧ ((∃ c, s.env.get t = .imm (.val (.bool c)) ∧ c ≠ b) ∨ s.env.get t = .tup [])) := by
 unfold exOne at h
 dsimp only at h
 have go : ∀ {s'}, (exOp call s o.op).map (fun (v, s') => match o.dst with | some d => { s' with env := (d, v) :: s'.env } | none => s') = some s' → ∃ v s1, exOp call s o.op = some (v, s1) ∧ s' = s1.bind o.dst v := by
  intro s' h
  cases hx : exOp call s o.op with
  | none => rw [hx] at h; cases h
  | some p =>
   obtain ⟨v, s1⟩ := p
   rw [hx] at h
   refine ⟨v, s1, rfl, ?_⟩
   simp only [Option.map_some, Option.some.injEq] at h
   rw [← h]
   cases o.dst <;> rfl
 split at h
 ·rename_i hg
  obtain ⟨v, s1, h1, h2⟩ := go h
  exact .inl ⟨v, s1, h1, h2, .inl hg⟩
 ·rename_i t b hg
  split at h
  ·rename_i c hc
   split at h
   ·rename_i hcb
    obtain ⟨v, s1, h1, h2⟩ := go h
    exact .inl ⟨v, s1, h1, h2, .inr ⟨t, b, hg, by rw [hc, hcb]⟩⟩
   ·rename_i hcb
    refine .inr ⟨?_, t, b, hg, .inl ⟨c, hc, hcb⟩⟩
    simp only [Option.some.injEq] at h
    rw [← h]
    cases o.dst <;> rfl
  ·rename_i hc
   refine .inr ⟨?_, t, b, hg, .inr hc⟩
   simp only [Option.some.injEq] at h
   rw [← h]
   cases o.dst <;> rfl
  ·cases h
theorem zq8 {ops : Array Oper} {o : Oper} {a : Act} {C : Cx} {s : St} (hs : SRep num C s a) {t : Nat} {b : Bool} {j : Nat} {c : Bool} (hg : o.guard = some (j, b)) (hj : (ops[j]?).bind (·.dst) = some t) (ht : t < a.tmps.size) (hc : s.env.get t = .imm (.val (.bool c))) :
  Region.wanted o (yielded ops a.tmps) = (c == b) := by
 have h1 := hs.env t
 rw [hc] at h1
 have h2 := zmx h1
 have h3 : a.tmps[t]? = some (.bool c) := by
  simp only [Array.getD, ht, dite_true] at h2
  rw [Array.getElem?_eq_getElem ht]; exact congrArg some h2
 simp only [Region.wanted, hg, yielded, hj, Option.bind_some, h3]
 cases c <;> cases b <;> rfl
theorem zqi {ops : Array Oper} {o : Oper} {a : Act} {C : Cx} {s : St} (hs : SRep num C s a) {t : Nat} {b : Bool} {j : Nat} (hg : o.guard = some (j, b)) (hj : (ops[j]?).bind (·.dst) = some t) (ht : t < a.tmps.size) (hc : s.env.get t = .tup []) :
  Region.wanted o (yielded ops a.tmps) = false := by
 have h1 := hs.env t
 rw [hc] at h1
 have h3 : a.tmps[t]? = some (.tuple #[]) := by
  generalize hv : a.tmps.getD t undef = v at h1
  cases h1 with
  | tup _ vs hl _ =>
   have : vs = #[] := by simpa using hl.symm
   subst this
   simp only [Array.getD, ht, dite_true] at hv
   rw [Array.getElem?_eq_getElem ht]; exact congrArg some hv
 simp only [Region.wanted, hg, yielded, hj, Option.bind_some, h3]
 cases b <;> rfl
theorem zo4 (C : Cx) : ARep num C (.tup []) undef := .tup [] #[] rfl fun j x u hx _ => by simp at hx
theorem one_wp {ro : Option Nat} {call : Calls'} (hcall : CallOK num P call) {N : Nat} {ops : Array Oper} {o : Oper} {x : XO} (htr : trOper P num N ops o = some x.wipe) {a : Act} {C : Cx} {s s' : St} (hs : SRep num C s a) (hN : N ≤ a.tmps.size) (h : exOne call s x = some s')
  {K : Act → World → Prop} {Q : Exit → Act → World → Prop} (hK : ∀ D a', Later num s.k C s.mem a D s' a' → (∃ v, a' = a.put o.dst v) → K a' D.w) :
  if Region.wanted o (yielded ops a.tmps) then o.wpIn (fz ro) 0 P a C.w K Q else (∀ f, o.about P C.w a.eval = some f → (fz ro).fn f) ∧ K (a.put o.dst undef) C.w := by
 obtain ⟨h1, h2, h3, h4, hgd⟩ := zp7 htr
 have hguard : x.wipe.guard = x.guard := rfl
 have hdst : x.wipe.dst = x.dst := rfl
 rw [hguard] at h2
 rw [hdst] at h3
 have wgd : ∀ (t : Nat) (b : Bool), x.guard = some (t, b) → ∃ j, o.guard = some (j, b) ∧ (ops[j]?).bind (·.dst) = some t := by
  intro t b hx
  rw [hx] at h2
  unfold trGuard at h2
  split at h2
  ·cases h2
  ·rename_i j b' hjb
   split at h2
   ·rename_i t' ht
    simp only [Option.some.injEq, Prod.mk.injEq] at h2
    obtain ⟨rfl, rfl⟩ := h2
    exact ⟨_, hjb, ht⟩
   ·cases h2
 rcases zd8 h with ⟨v, s1, hx, rfl, hg⟩ | ⟨rfl, t, b, hg, hc⟩
 ·have hw : Region.wanted o (yielded ops a.tmps) = true := by
   rcases hg with hg | ⟨t, b, hg, hc⟩
   ·rw [hg] at h2
    unfold trGuard at h2
    split at h2
    ·simp [Region.wanted, *]
    ·split at h2 <;> simp at h2
   ·obtain ⟨j, hj, hd⟩ := wgd t b hg
    rw [zq8 hs hj hd (Nat.lt_of_lt_of_le (hgd t b hg) hN) hc]; simp
  rw [if_pos hw]
  have := zdc (ro := ro) hs.mem (zeb (ty := o.type) (pos := o.pos) (after := o.after) hcall hs h1 hx) hN h4 o.guard (K := K) (Q := Q)
  obtain ⟨d, op, ty, pos, after, g⟩ := o
  dsimp only at *
  refine this fun D a' hl hp => hK D a' ?_ hp
  rw [h3]
  exact hl
 ·obtain ⟨j, hj, hd⟩ := wgd t b hg
  have hw : Region.wanted o (yielded ops a.tmps) = false := by
   rcases hc with ⟨c, hc, hne⟩ | hc
   ·rw [zq8 hs hj hd (Nat.lt_of_lt_of_le (hgd t b hg) hN) hc]; simpa using hne
   ·exact zqi hs hj hd (Nat.lt_of_lt_of_le (hgd t b hg) hN) hc
  rw [hw]
  simp only [Bool.false_eq_true, if_false]
  refine ⟨fun _ _ => trivial, hK C _ ?_ ⟨_, rfl⟩⟩
  rw [h3]
  exact zbj hs.mem hN h4 (.refl hs.mem hs.k) hs.env (zo4 C) rfl
theorem zig {ro : Option Nat} {call : Calls'} (hcall : CallOK num P call) {N : Nat} {ops : Array Oper} {Q : Exit → Act → World → Prop} : ∀ (l : List Oper) (xs : List XO) {a : Act} {C : Cx} {s s' : St}, trOps P num N ops l = xs.map XO.wipe → SRep num C s a → N ≤ a.tmps.size → exOps call s xs = some s' →
  (∀ D a', Later num s.k C s.mem a D s' a' → Q .normal a' D.w) → wpListIn (fz ro) 0 P ops Q l a C.w
 | [], xs, a, C, s, s', htr, hs, _, h, hQ => by
  cases xs with
  | nil => cases h; exact hQ C a (.refl hs)
  | cons x r => simp [trOps] at htr
 | o :: l, xs, a, C, s, s', htr, hs, hN, h, hQ => by
  simp only [trOps] at htr
  cases ho : trOper P num N ops o with
  | none =>
   rw [ho] at htr
   cases xs with
   | nil => simp at htr
   | cons x r =>
    simp only [List.map_cons, List.cons.injEq] at htr
    have hb : x.wipe = badOp := htr.1.symm
    have h1 : (x.op = .callV (.c (.bool true)) [] ∨ x.op = .callP (.c (.bool true)) [] ∨ ∃ w, x.op = .callT (.c (.bool true)) [] w) ∧ x.guard = none := by
     obtain ⟨d, op, g⟩ := x
     simp only [XO.wipe, badOp, XO.mk.injEq] at hb
     obtain ⟨_, h2, h3⟩ := hb
     refine ⟨?_, h3⟩
     cases op <;> simp only [XOp.wipe, reduceCtorEq] at h2
     ·exact .inl h2
     ·cases h2; exact .inr (.inl rfl)
     ·cases h2; exact .inr (.inr ⟨_, rfl⟩)
    simp only [exOps] at h
    unfold exOne at h
    rcases h1.1 with h4 | h4 | ⟨_, h4⟩ <;> simp only [h4, h1.2, exOp, Env.ev, Option.map_none, Option.bind_none] at h <;> cases h
  | some y =>
   rw [ho] at htr
   cases xs with
   | nil => simp at htr
   | cons x r =>
    simp only [List.map_cons, List.cons.injEq] at htr
    obtain ⟨h1, h2⟩ := htr
    subst h1
    simp only [exOps] at h
    cases hx : exOne call s x with
    | none => rw [hx] at h; cases h
    | some s1 =>
     rw [hx] at h
     simp only [Option.bind_some] at h
     have := one_wp hcall ho hs hN hx (ro := ro) (Q := Q) (K := wpListIn (fz ro) 0 P ops Q l) fun D a' hl _ =>
      zig hcall l r h2 hl.rep (by rw [hl.size]; exact hN) h fun E a'' hl' => hQ E a'' (hl.trans (by rw [hl.k] at hl'; exact hl'))
     unfold wpListIn
     exact this
theorem zrg {F : Fence} {n : Nat} {md : Region.Mode} {ops : Array Oper} {Q' : Exit → Act → World → Prop} : ∀ (l : List Oper) (k : Nat) (listed : Array Bool) (a : Act) (w : World), (∀ j, l[j]? = ops[k + j]?) →
  Region.seqB md ops l.length k listed = true → wpListIn F n P ops Q' l a w → wpAnyIn F n P md ops Q' l.length listed a w
 | [], _, _, _, _, _, hB, h => ⟨by simpa [Region.seqB] using hB, h⟩
 | o :: l, k, listed, a, w, hl, hB, h => by
  have h0 : ops[k]? = some o := by simpa using (hl 0).symm
  simp only [List.length_cons, Region.seqB, Bool.and_eq_true, decide_eq_true_eq] at hB
  refine ⟨fun h1 => (by rw [hB.1] at h1; cases h1), fun i hi => ?_⟩
  rw [hB.1] at hi
  have hik : i = k := by simpa using hi
  subst hik
  have hw : wpOpIn F n P ops Q' i (wpListIn F n P ops Q' l) a w := by unfold wpOpIn; simp only [h0]; exact h
  exact wpOpIn_mono (fun a' w' h' => zrg l (i + 1) _ a' w' (fun j => by have := hl (j + 1); simpa [Nat.add_assoc, Nat.add_comm 1 j] using this) hB.2 h') hw
end
end Go.EX

