/-
  EX: what it is for a value to stand for one of the interpreter's, in a world.
-/
import Derived.Test.YtbomedbbgfcncaaTr
import Derived.Laws.CopyRow
import Derived.Laws.Rows
import Derived.Laws.World
set_option linter.unusedVariables false
set_option linter.unusedSimpArgs false
namespace Go.EX

theorem addr_add (b o n : Nat) : (⟨b, o, none⟩ : Addr).add n = ⟨b, o + n, none⟩ := by
  unfold Addr.add; split <;> simp_all

theorem oneCell_eq (v : Value) : oneCellV v = v.oneCell' := by cases v <;> rfl

/-- 'v' reads as 'x', by content; what it leads to lies in blocks that are never written. -/
inductive IRep (I : Nat → Prop) (w : World) : IV → Value → Prop
  | val (v : Value) (h : v.oneCell' = true) : IRep I w (.val v) v
  | slice (row : List IV) (off len : Nat) (cap : Option Nat) (b o c a : Nat) (u : Nat → Value) (hb : I b)
      (hc : ∀ (j : Nat) (x : IV), row[j]? = some x → w.cell? ⟨b, o + j, none⟩ = some (u j)) (hu : ∀ (j : Nat) (x : IV), row[j]? = some x → IRep I w x (u j))
      (hl : len ≤ c) (hk : ∀ k, cap = some k → c = k) (ha : a = o + off ∨ c = 0) : IRep I w (.slice row off len cap) (.slice (some ⟨b, a, none⟩) len c)
  | vac (row : List IV) (off : Nat) (a : Addr) : IRep I w (.slice row off 0 (some 0)) (.slice (some a) 0 0)
  | ptr (row : List IV) (off : Nat) (b o : Nat) (u : Nat → Value) (hb : I b)
      (hc : ∀ (j : Nat) (x : IV), row[j]? = some x → w.cell? ⟨b, o + j, none⟩ = some (u j)) (hu : ∀ (j : Nat) (x : IV), row[j]? = some x → IRep I w x (u j)) :
      IRep I w (.ptr row off) (.pointer (some ⟨b, o + off, none⟩))

theorem IRep.one {I : Nat → Prop} {w : World} {x : IV} {v : Value} (h : IRep I w x v) : v.oneCell' = true := by
  cases h with
  | val v h => exact h
  | slice => rfl
  | vac => rfl
  | ptr => rfl

theorem IRep.mono {I J : Nat → Prop} {w w' : World} (hI : ∀ b, I b → J b) (hw : ∀ b, I b → w'.heap[b]? = w.heap[b]?) {x : IV} {v : Value} (h : IRep I w x v) : IRep J w' x v := by
  induction h with
  | val v h => exact .val v h
  | slice row off len cap b o c a u hb hc hu hl hk ha ih =>
    exact .slice row off len cap b o c a u (hI b hb) (fun j x hx => by
      have := hc j x hx
      simp only [World.cell?] at this ⊢
      rw [hw b hb]; exact this) ih hl hk ha
  | vac row off a => exact .vac row off a
  | ptr row off b o u hb hc hu ih =>
    exact .ptr row off b o u (hI b hb) (fun j x hx => by
      have := hc j x hx
      simp only [World.cell?] at this ⊢
      rw [hw b hb]; exact this) ih

/-- Where the objects lie; which blocks are never written; how many objects there are; the world. -/
structure Cx where
  σ : Nat → Nat
  I : Nat → Prop
  n : Nat
  w : World

section
variable (num : FuncId → Nat)

inductive ARep (C : Cx) : AV → Value → Prop
  | imm (x : IV) (v : Value) (h : IRep C.I C.w x v) : ARep C (.imm x) v
  | osl (id off sz len : Nat) (cap : Option Nat) (c a : Nat) (arr : Array Value) (e : TypeId) (hid : id < C.n) (hl : len ≤ c) (hk : ∀ k, cap = some k → c = k) (ha : a = off ∨ c = 0)
      (hw : C.w.heap[C.σ id]? = some (.cells arr e (0, 0))) (hs : c = 0 ∨ off + c * sz ≤ arr.size) : ARep C (.osl id off sz len cap) (.slice (some ⟨C.σ id, a, none⟩) len c)
  | optr (id off : Nat) (hid : id < C.n) : ARep C (.optr id off) (.pointer (some ⟨C.σ id, off, none⟩))
  | clo (f : FuncId) (caps : List AV) (vs : Array Value) (hl : caps.length = vs.size) (h : ∀ (j : Nat) (x : AV) (u : Value), caps[j]? = some x → vs[j]? = some u → ARep C x u) : ARep C (.clo (num f) caps) (.func (.func f) #[] vs)
  | agg (cells : List AV) (vs : Array Value) (hl : cells.length = vs.size) (h1 : ∀ (j : Nat) (u : Value), vs[j]? = some u → u.oneCell' = true) (h : ∀ (j : Nat) (x : AV) (u : Value), cells[j]? = some x → vs[j]? = some u → ARep C x u) : ARep C (.agg cells) (.agg vs)
  | tup (xs : List AV) (vs : Array Value) (hl : xs.length = vs.size) (h : ∀ (j : Nat) (x : AV) (u : Value), xs[j]? = some x → vs[j]? = some u → ARep C x u) : ARep C (.tup xs) (.tuple vs)
  | omap (id : Nat) (hid : id < C.n) : ARep C (.omap id) (.map (some (C.σ id)))
  | junk (v : Value) : ARep C .junk v

/-- Values of one context, their objects renumbered by f, stand for the same in another. -/
structure Tr (f : Nat → Option Nat) (C D : Cx) : Prop where
  imm : ∀ b, C.I b → D.I b
  keep : ∀ b, C.I b → D.w.heap[b]? = C.w.heap[b]?
  ids : ∀ id j, id < C.n → f id = some j → j < D.n ∧ D.σ j = C.σ id ∧ ∀ arr e, C.w.heap[C.σ id]? = some (.cells arr e (0, 0)) → ∃ arr', D.w.heap[C.σ id]? = some (.cells arr' e (0, 0)) ∧ arr'.size = arr.size

theorem renL_get (f : Nat → Option Nat) : ∀ (l : List AV) (j : Nat), (AV.ren.renL f l)[j]? = (l[j]?).map (AV.ren f)
  | [], j => by simp [AV.ren.renL]
  | x :: r, 0 => by simp [AV.ren.renL]
  | x :: r, j + 1 => by simp [AV.ren.renL, renL_get f r j]

theorem renL_length (f : Nat → Option Nat) : ∀ (l : List AV), (AV.ren.renL f l).length = l.length
  | [] => rfl
  | x :: r => by simp [AV.ren.renL, renL_length f r]

theorem renL_eq (f : Nat → Option Nat) : ∀ (l : List AV), AV.ren.renL f l = l.map (AV.ren f)
  | [] => rfl
  | x :: r => by simp [AV.ren.renL, renL_eq f r]

variable {num}

theorem ARep.tr {f : Nat → Option Nat} {C D : Cx} (t : Tr f C D) {x : AV} {v : Value} (h : ARep num C x v) : ARep num D (x.ren f) v := by
  induction h with
  | imm x v h => exact .imm x v (h.mono t.imm t.keep)
  | osl id off sz len cap c a arr e hid hl hk ha hw hs =>
    simp only [AV.ren]
    cases hf : f id with
    | none => exact .junk _
    | some j =>
      obtain ⟨h1, h2, h3⟩ := t.ids id j hid hf
      obtain ⟨arr', h4, h5⟩ := h3 arr e hw
      dsimp only
      rw [← h2] at h4 ⊢
      exact .osl j off sz len cap c a arr' e h1 hl hk ha h4 (by rw [h5]; exact hs)
  | optr id off hid =>
    simp only [AV.ren]
    cases hf : f id with
    | none => exact .junk _
    | some j =>
      obtain ⟨h1, h2, _⟩ := t.ids id j hid hf
      dsimp only
      rw [← h2]
      exact .optr j off h1
  | clo g caps vs hl h ih =>
    simp only [AV.ren]
    refine .clo g _ vs (by rw [renL_length]; exact hl) fun j x u hx hu => ?_
    rw [renL_get] at hx
    cases hc : caps[j]? with
    | none => simp [hc] at hx
    | some y => simp [hc] at hx; subst hx; exact ih j y u hc hu
  | agg cells vs hl h1 h ih =>
    simp only [AV.ren]
    refine .agg _ vs (by rw [renL_length]; exact hl) h1 fun j x u hx hu => ?_
    rw [renL_get] at hx
    cases hc : cells[j]? with
    | none => simp [hc] at hx
    | some y => simp [hc] at hx; subst hx; exact ih j y u hc hu
  | tup xs vs hl h ih =>
    simp only [AV.ren]
    refine .tup _ vs (by rw [renL_length]; exact hl) fun j x u hx hu => ?_
    rw [renL_get] at hx
    cases hc : xs[j]? with
    | none => simp [hc] at hx
    | some y => simp [hc] at hx; subst hx; exact ih j y u hc hu
  | omap id hid =>
    simp only [AV.ren]
    cases hf : f id with
    | none => exact .junk _
    | some j =>
      obtain ⟨h1, h2, _⟩ := t.ids id j hid hf
      dsimp only
      rw [← h2]
      exact .omap j h1
  | junk v => exact .junk v

mutual
theorem ren_some : ∀ (x : AV), x.ren some = x
  | .imm _ => rfl
  | .osl .. => rfl
  | .optr .. => rfl
  | .omap _ => rfl
  | .clo fn caps => by simp only [AV.ren, renL_some caps]
  | .agg cells => by simp only [AV.ren, renL_some cells]
  | .tup vs => by simp only [AV.ren, renL_some vs]
  | .junk => rfl
theorem renL_some : ∀ (l : List AV), AV.ren.renL some l = l
  | [] => rfl
  | x :: r => by simp only [AV.ren.renL, ren_some x, renL_some r]
end

theorem ARep.mono {C D : Cx} (t : Tr some C D) {x : AV} {v : Value} (h : ARep num C x v) : ARep num D x v := by
  have := h.tr t
  rwa [ren_some] at this

theorem Tr.refl (C : Cx) : Tr some C C := ⟨fun _ h => h, fun _ _ => rfl, fun id j hid hj => by cases hj; exact ⟨hid, rfl, fun arr e h => ⟨arr, h, rfl⟩⟩⟩

/-! ### memory -/

variable (num)

def ORep (C : Cx) (id : Nat) : AObj → Prop
  | .flat cells _ => ∃ arr e, C.w.heap[C.σ id]? = some (.cells arr e (0, 0)) ∧ ∀ (j : Nat) x, cells[j]? = some x → ∃ u : Value, arr[j]? = some u ∧ IRep C.I C.w x u
  | .rich cells => ∃ arr e, C.w.heap[C.σ id]? = some (.cells arr e (0, 0)) ∧ ∀ (j : Nat) x, cells[j]? = some x → ∃ u : Value, arr[j]? = some u ∧ u.oneCell' = true ∧ ARep num C x u
  | .map es => ∃ (es' : Array MapEntry) (clock : Nat), C.w.heap[C.σ id]? = some (.map es' clock) ∧ es'.size = es.length ∧ ∀ (j : Nat) (p : AV × AV) (x : MapEntry), es[j]? = some p → es'[j]? = some x → ARep num C p.1 x.key ∧ ARep num C p.2 x.val
  | .dead => True

variable {num} in
theorem orep_tr {f : Nat → Option Nat} {C D : Cx} {id id' : Nat} (t : Tr f C D) (hσ : D.σ id' = C.σ id) (hb : ∀ x : Obj, C.w.heap[C.σ id]? = some x → D.w.heap[C.σ id]? = some x) {o : AObj} (h : ORep num C id o) : ORep num D id' (o.ren f) := by
  cases o with
  | flat cs mv =>
    obtain ⟨arr, e, h1, h2⟩ := h
    refine ⟨arr, e, by rw [hσ]; exact hb _ h1, fun k x hx => ?_⟩
    obtain ⟨u, hu, hr⟩ := h2 k x hx
    exact ⟨u, hu, hr.mono t.imm t.keep⟩
  | rich cs =>
    obtain ⟨arr, e, h1, h2⟩ := h
    refine ⟨arr, e, by rw [hσ]; exact hb _ h1, fun k x hx => ?_⟩
    rw [renL_get] at hx
    cases hq : cs[k]? with
    | none => simp [hq] at hx
    | some y =>
      simp [hq] at hx
      subst hx
      obtain ⟨u, hu, ho, hr⟩ := h2 k y hq
      exact ⟨u, hu, ho, hr.tr t⟩
  | map es =>
    obtain ⟨es', clock, h1, h2, h3⟩ := h
    refine ⟨es', clock, by rw [hσ]; exact hb _ h1, by simpa using h2, fun j p x hp hx => ?_⟩
    rw [List.getElem?_map] at hp
    cases hq : es[j]? with
    | none => simp [hq] at hp
    | some q =>
      simp [hq] at hp
      subst hp
      obtain ⟨h4, h5⟩ := h3 j q x hq hx
      exact ⟨h4.tr t, h5.tr t⟩
  | dead => trivial

theorem obj_ren_some (o : AObj) : o.ren some = o := by
  cases o with
  | flat => rfl
  | rich cs => simp only [AObj.ren, renL_some]
  | map es => simp only [AObj.ren, ren_some]; simp
  | dead => rfl

variable {num} in
theorem orep_mono {C D : Cx} {id : Nat} (t : Tr some C D) (hσ : D.σ id = C.σ id) (hb : ∀ x : Obj, C.w.heap[C.σ id]? = some x → D.w.heap[C.σ id]? = some x) {o : AObj} (h : ORep num C id o) : ORep num D id o := by
  have := orep_tr t hσ hb h
  rwa [obj_ren_some] at this

def Own (C : Cx) (m : Mem) (b : Nat) : Prop := ∃ id o, m[id]? = some o ∧ o.live = true ∧ C.σ id = b

structure MRep (C : Cx) (m : Mem) : Prop where
  len : m.length = C.n
  obj : ∀ id o, m[id]? = some o → ORep num C id o
  inj : ∀ i j o p, m[i]? = some o → m[j]? = some p → o.live = true → p.live = true → C.σ i = C.σ j → i = j
  imm : ∀ b, Own C m b → ¬ C.I b
  bd : ∀ b, C.I b → b < C.w.heap.size

theorem MRep.lt {C : Cx} {m : Mem} (h : MRep num C m) {b : Nat} (hb : Own C m b) : b < C.w.heap.size := by
  obtain ⟨id, o, ho, hl, rfl⟩ := hb
  have := h.obj id o ho
  cases o with
  | flat cells mv => obtain ⟨arr, e, h1, _⟩ := this; exact (Array.getElem?_eq_some_iff.1 h1).1
  | rich cells => obtain ⟨arr, e, h1, _⟩ := this; exact (Array.getElem?_eq_some_iff.1 h1).1
  | map es => obtain ⟨es', clock, h1, _⟩ := this; exact (Array.getElem?_eq_some_iff.1 h1).1
  | dead => cases hl

/-- From one context to a later one; the first k objects are the same, unless they were moved. -/
structure Step (k : Nat) (C : Cx) (m : Mem) (D : Cx) (m' : Mem) : Prop where
  rep : MRep num D m'
  os : D.w.os = C.w.os
  tape : D.w.tape = C.w.tape
  out : D.w.output = C.w.output
  size : C.w.heap.size ≤ D.w.heap.size
  keep : ∀ b, b < C.w.heap.size → ¬ Own C m b → D.w.heap[b]? = C.w.heap[b]?
  sz : ∀ (b : Nat) arr e, C.w.heap[b]? = some (.cells arr e (0, 0)) → ∃ arr', D.w.heap[b]? = some (.cells arr' e (0, 0)) ∧ arr'.size = arr.size
  imm : ∀ b, C.I b → D.I b
  imm' : ∀ b, D.I b → C.I b ∨ C.w.heap.size ≤ b ∨ Own C m b
  own : ∀ b, Own D m' b → C.w.heap.size ≤ b ∨ Own C m b
  same : ∀ i, i < k → ∀ o', m'[i]? = some o' → o'.moved = false → ∃ o, m[i]? = some o ∧ o.moved = false ∧ D.σ i = C.σ i
  len : k ≤ m'.length

variable {num}

theorem moved_live {o : AObj} (h : o.moved = false) : o.live = true := by cases o <;> simp_all [AObj.moved, AObj.live]

theorem Step.refl {C : Cx} {m : Mem} {k : Nat} (h : MRep num C m) (hk : k ≤ m.length) : Step num k C m C m :=
  ⟨h, rfl, rfl, rfl, Nat.le_refl _, fun _ _ _ => rfl, fun _ arr _ h => ⟨arr, h, rfl⟩, fun _ h => h, fun _ h => .inl h, fun _ h => .inr h, fun i _ o' ho hm => ⟨o', ho, hm, rfl⟩, hk⟩

theorem Step.trans {k : Nat} {C D E : Cx} {m m' m'' : Mem} (h : Step num k C m D m') (g : Step num k D m' E m'') : Step num k C m E m'' := by
  refine ⟨g.rep, g.os.trans h.os, g.tape.trans h.tape, g.out.trans h.out, Nat.le_trans h.size g.size, ?_, ?_, fun b hb => g.imm b (h.imm b hb), ?_, ?_, ?_, g.len⟩
  · intro b hb hno
    have h1 : ¬ Own D m' b := fun ho => by rcases h.own b ho with h' | h'; omega; exact hno h'
    exact (g.keep b (Nat.lt_of_lt_of_le hb h.size) h1).trans (h.keep b hb hno)
  · intro b arr e hw
    obtain ⟨arr1, h1, h2⟩ := h.sz b arr e hw
    obtain ⟨arr2, h3, h4⟩ := g.sz b arr1 e h1
    exact ⟨arr2, h3, h4.trans h2⟩
  · intro b hb
    rcases g.imm' b hb with h1 | h1 | h1
    · exact h.imm' b h1
    · exact .inr (.inl (Nat.le_trans h.size h1))
    · exact .inr (h.own b h1)
  · intro b hb
    rcases g.own b hb with h1 | h1
    · exact .inl (Nat.le_trans h.size h1)
    · exact h.own b h1
  · intro i hi o' ho hm
    obtain ⟨o1, h1, h2, h3⟩ := g.same i hi o' ho hm
    obtain ⟨o2, h4, h5, h6⟩ := h.same i hi o1 h1 h2
    exact ⟨o2, h4, h5, h3.trans h6⟩

theorem Step.le {k j : Nat} {C D : Cx} {m m' : Mem} (h : Step num k C m D m') (hj : j ≤ k) : Step num j C m D m' :=
  ⟨h.rep, h.os, h.tape, h.out, h.size, h.keep, h.sz, h.imm, h.imm', h.own, fun i hi => h.same i (by omega), Nat.le_trans hj h.len⟩

/-- What is never written stays as it was. -/
theorem Step.keepI {k : Nat} {C D : Cx} {m m' : Mem} (h : Step num k C m D m') (hC : MRep num C m) {b : Nat} (hb : C.I b) : D.w.heap[b]? = C.w.heap[b]? :=
  h.keep b (hC.bd b hb) fun ho => hC.imm b ho hb

/-! ### the environment -/

variable (num)

def ERep (C : Cx) (e : Env) (tmps : Array Value) : Prop := ∀ t, ARep num C (e.get t) (tmps.getD t undef)

variable {num}

theorem env_ren_get (f : Nat → Option Nat) (t : Nat) : ∀ (e : Env), (Env.ren f e).get t = (e.get t).ren f
  | [] => rfl
  | (k, v) :: r => by
    simp only [Env.ren, Env.get]
    split
    · rfl
    · exact env_ren_get f t r

theorem ERep.tr {f : Nat → Option Nat} {C D : Cx} (t : Tr f C D) {e : Env} {tmps : Array Value} (h : ERep num C e tmps) : ERep num D (e.ren f) tmps := by
  intro n
  rw [env_ren_get]
  exact (h n).tr t

theorem ERep.mono {C D : Cx} (t : Tr some C D) {e : Env} {tmps : Array Value} (h : ERep num C e tmps) : ERep num D e tmps := fun n => (h n).mono t

theorem env_keep_get (e : Env) (t : Nat) : ∀ (l : List Nat), (Env.get (l.map fun n => (n, e.get n)) t) = if t ∈ l then e.get t else .junk
  | [] => rfl
  | k :: r => by
    simp only [List.map_cons, Env.get]
    by_cases h : t = k
    · subst h; simp
    · rw [if_neg h, env_keep_get e t r]
      by_cases h' : t ∈ r
      · simp [h']
      · simp [h', h]

theorem ERep.keep {C : Cx} {e : Env} {tmps : Array Value} (h : ERep num C e tmps) (l : List Nat) : ERep num C (e.keep l) tmps := by
  intro t
  unfold Env.keep
  rw [env_keep_get]
  split
  · exact h t
  · exact .junk _

theorem ERep.put {C : Cx} {e : Env} {a : Act} (h : ERep num C e a.tmps) {d : Nat} (hd : d < a.tmps.size) {x : AV} {v : Value} (hx : ARep num C x v) : ERep num C ((d, x) :: e) (a.put (some d) v).tmps := by
  intro t
  simp only [Env.get, Act.put]
  by_cases ht : t = d
  · subst ht
    rw [if_pos rfl]
    simpa [Array.getD, hd] using hx
  · rw [if_neg ht]
    have : (a.tmps.setIfInBounds d v).getD t undef = a.tmps.getD t undef := by
      simp only [Array.getD_eq_getD_getElem?, Array.getElem?_setIfInBounds]
      rw [if_neg (by omega)]
    rw [this]
    exact h t

end
end Go.EX
