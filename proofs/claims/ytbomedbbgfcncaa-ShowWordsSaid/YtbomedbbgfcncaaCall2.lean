/-
  EX: objects renumbered; calls that hand objects over, calls whose objects the caller gets.
-/
import Derived.Test.YtbomedbbgfcncaaCall
set_option linter.unusedVariables false
set_option linter.unusedSimpArgs false
namespace Go.EX

section
variable {num : FuncId → Nat} {P : Program}
variable {ty : TypeId} {pos : String} {after : Array Edge} {a : Act} {C : Cx} {s : St}

theorem reach_props (m : Mem) : ∀ (n : Nat) (todo acc : List Nat), acc.Nodup → (∀ x ∈ acc, x < m.length) → (reach m n todo acc).Nodup ∧ (∀ x ∈ reach m n todo acc, x < m.length) ∧ ∃ r, reach m n todo acc = acc ++ r
  | 0, todo, acc, h1, h2 => ⟨h1, h2, [], by simp [reach]⟩
  | n + 1, [], acc, h1, h2 => ⟨h1, h2, [], by simp [reach]⟩
  | n + 1, id :: todo, acc, h1, h2 => by
    simp only [reach]
    split
    · exact reach_props m n todo acc h1 h2
    · rename_i hid
      split
      · rename_i hlt
        obtain ⟨h3, h4, r, hr⟩ := reach_props m n (todo ++ ((m[id]?).getD .dead).refs) (acc ++ [id]) (by rw [List.nodup_append]; exact ⟨h1, by simp, by intro x hx y hy; simp at hy; subst hy; intro e; subst e; exact hid hx⟩) (by
          intro x hx
          rw [List.mem_append] at hx
          rcases hx with hx | hx
          · exact h2 x hx
          · simp at hx; subst hx; exact hlt)
        exact ⟨h3, h4, id :: r, by rw [hr]; simp⟩
      · exact reach_props m n todo acc h1 h2

theorem order_props {k : Nat} {roots : List Nat} {m : Mem} (hk : k ≤ m.length) : (order k roots m).Nodup ∧ (∀ x ∈ order k roots m, x < m.length) ∧ ∃ r, order k roots m = List.range k ++ r :=
  reach_props m 200 _ _ List.nodup_range (fun x hx => by rw [List.mem_range] at hx; omega)

theorem place_get : ∀ (l : List Nat) (id i : Nat), place l id = some i → l[i]? = some id
  | [], id, i, h => by cases h
  | x :: l, id, i, h => by
    simp only [place] at h
    split at h
    · rename_i e; cases h; simp [e]
    · simp only [Option.map_eq_some_iff] at h
      obtain ⟨j, hj, rfl⟩ := h
      simp [place_get l id j hj]

theorem place_of : ∀ (l : List Nat) (id i : Nat), l.Nodup → l[i]? = some id → place l id = some i
  | [], id, i, _, h => by simp at h
  | x :: l, id, i, hn, h => by
    rw [List.nodup_cons] at hn
    simp only [place]
    cases i with
    | zero => simp at h; rw [if_pos h.symm]
    | succ i =>
      simp at h
      have : id ≠ x := fun e => hn.1 (e ▸ List.mem_of_getElem? h)
      rw [if_neg this, place_of l id i hn.2 h]
      rfl

theorem place_none {l : List Nat} {id : Nat} (h : id ∉ l) : place l id = none := by
  cases hp : place l id with
  | none => rfl
  | some i => exact absurd (List.mem_of_getElem? (place_get l id i hp)) h

/-- The context in which object number i is what number l[i] was. -/
def Cx.pick (C : Cx) (l : List Nat) : Cx := { σ := fun i => C.σ (l.getD i 0), I := C.I, n := l.length, w := C.w }

theorem pick_σ {l : List Nat} {i id : Nat} (h : l[i]? = some id) : (C.pick l).σ i = C.σ id := by simp [Cx.pick, List.getD, h]

theorem pick_tr (l : List Nat) : Tr (place l) C (C.pick l) := by
  refine ⟨fun _ h => h, fun _ _ => rfl, fun id j _ hj => ?_⟩
  have := place_get l id j hj
  exact ⟨(List.getElem?_eq_some_iff.1 this).1, pick_σ this, fun arr e h => ⟨arr, h, rfl⟩⟩

theorem pick_get {m : Mem} {l : List Nat} {i : Nat} {p : AObj} (h : (m.pickAll l)[i]? = some p) : ∃ id, l[i]? = some id ∧ p = ((m[id]?).getD .dead).ren (place l) := by
  obtain ⟨id, h1, h2⟩ := map_get _ _ _ _ h
  exact ⟨id, h1, h2⟩

theorem getD_live {m : Mem} {id : Nat} (h : ((m[id]?).getD .dead).live = true) : ∃ o, m[id]? = some o ∧ (m[id]?).getD .dead = o := by
  cases hq : m[id]? with
  | none => rw [hq] at h; cases h
  | some o => exact ⟨o, rfl, rfl⟩

theorem getD_moved {m : Mem} {id : Nat} (h : ((m[id]?).getD .dead).moved = false) : ∃ o, m[id]? = some o ∧ (m[id]?).getD .dead = o := by
  cases hq : m[id]? with
  | none => rw [hq] at h; cases h
  | some o => exact ⟨o, rfl, rfl⟩

theorem pick_own {m : Mem} {l : List Nat} {b : Nat} (h : Own (C.pick l) (m.pickAll l) b) : ∃ id o, id ∈ l ∧ m[id]? = some o ∧ o.live = true ∧ C.σ id = b := by
  obtain ⟨i, p, hp, hl, hb⟩ := h
  obtain ⟨id, h1, rfl⟩ := pick_get hp
  rw [ren_live] at hl
  obtain ⟨o, ho, he⟩ := getD_live hl
  rw [he] at hl
  exact ⟨id, o, List.mem_of_getElem? h1, ho, hl, by rw [← pick_σ h1]; exact hb⟩

theorem pick_rep {m : Mem} (hm : MRep num C m) {l : List Nat} (hn : l.Nodup) : MRep num (C.pick l) (m.pickAll l) := by
  refine ⟨by simp [Mem.pickAll, Cx.pick], fun i p hp => ?_, fun i j p q hp hq hlp hlq he => ?_, fun b hb hI => ?_, hm.bd⟩
  · obtain ⟨id, h1, rfl⟩ := pick_get hp
    cases hq : m[id]? with
    | none => trivial
    | some o => exact orep_tr (pick_tr l) (pick_σ h1) (fun _ h => h) (hm.obj id o hq)
  · obtain ⟨id, h1, rfl⟩ := pick_get hp
    obtain ⟨id2, h2, rfl⟩ := pick_get hq
    rw [ren_live] at hlp hlq
    obtain ⟨o, ho, he1⟩ := getD_live hlp
    obtain ⟨o2, ho2, he2⟩ := getD_live hlq
    rw [he1] at hlp
    rw [he2] at hlq
    rw [pick_σ h1, pick_σ h2] at he
    have := hm.inj id id2 o o2 ho ho2 hlp hlq he
    subst this
    have e1 := place_of l id i hn h1
    have e2 := place_of l id j hn h2
    rw [e1] at e2
    exact Option.some.inj e2
  · obtain ⟨id, o, _, ho, hl, hb⟩ := pick_own hb
    exact hm.imm b ⟨id, o, ho, hl, hb⟩ hI

/-- What is reached, with new numbers. -/
theorem pick_step {m : Mem} (hm : MRep num C m) {k : Nat} (hk : k ≤ m.length) (roots : List Nat) : Step num k C m (C.pick (order k roots m)) (m.pickAll (order k roots m)) := by
  obtain ⟨h1, h2, r, hr⟩ := order_props (roots := roots) hk
  have hk' : ∀ i, i < k → (order k roots m)[i]? = some i := by
    intro i hi
    rw [hr, List.getElem?_append_left (by simpa using hi), List.getElem?_range hi]
  have hown : ∀ b, Own (C.pick (order k roots m)) (m.pickAll (order k roots m)) b → Own C m b := by
    intro b hb
    obtain ⟨id, o, _, ho, hl, hb⟩ := pick_own hb
    exact ⟨id, o, ho, hl, hb⟩
  refine ⟨pick_rep hm h1, rfl, rfl, rfl, Nat.le_refl _, fun _ _ _ => rfl, fun b arr e h => ⟨arr, h, rfl⟩, fun _ h => h, fun _ h => .inl h, fun b hb => .inr (hown b hb), fun i hi p hp hmv => ?_, by rw [Mem.pickAll, List.length_map, hr]; simp⟩
  obtain ⟨id, h3, rfl⟩ := pick_get hp
  rw [hk' i hi] at h3
  cases h3
  rw [ren_moved] at hmv
  obtain ⟨o, ho, he⟩ := getD_moved hmv
  rw [he] at hmv
  exact ⟨o, ho, hmv, pick_σ (hk' i hi)⟩

theorem tidy_rep (hs : SRep num C s a) (keep : List Nat) : ∃ D, D.w = C.w ∧ SRep num D (s.tidy keep) a ∧ Step num s.k C s.mem D (s.tidy keep).mem ∧ (s.tidy keep).k = s.k := by
  unfold St.tidy
  split
  · exact ⟨C, rfl, ⟨hs.mem, hs.env.keep keep, hs.k⟩, .refl hs.mem hs.k, rfl⟩
  · have hst := pick_step hs.mem hs.k (Env.roots (s.env.keep keep))
    exact ⟨C.pick (order s.k (Env.roots (s.env.keep keep)) s.mem), rfl, ⟨hst.rep, (hs.env.keep keep).tr (pick_tr _), hst.len⟩, hst, rfl⟩

/-! ### objects handed over -/

theorem args_ren {f : Nat → Option Nat} {D : Cx} (t : Tr f C D) {args : List AV} {vals : Array Value} (hl : args.length = vals.size) (hr : ∀ (j : Nat) (x : AV) (u : Value), args[j]? = some x → vals[j]? = some u → ARep num C x u) :
    (AV.ren.renL f args).length = vals.size ∧ ∀ (j : Nat) (x : AV) (u : Value), (AV.ren.renL f args)[j]? = some x → vals[j]? = some u → ARep num D x u := by
  refine ⟨by rw [renL_length]; exact hl, fun j x u hx hu => ?_⟩
  rw [renL_get] at hx
  cases hq : args[j]? with
  | none => simp [hq] at hx
  | some y => simp [hq] at hx; subst hx; exact (hr j y u hq hu).tr t

theorem orMoved_live (o : AObj) (b : Bool) : (o.orMoved b).live = o.live := by cases o <;> rfl
theorem orMoved_moved (o : AObj) (b : Bool) (h : (o.orMoved b).moved = false) : o.moved = false := by
  cases o with
  | flat cs m => simp [AObj.orMoved, AObj.moved] at h ⊢; exact h.1
  | rich => rfl
  | map => rfl
  | dead => cases h
theorem orMoved_rep {D : Cx} {id : Nat} {o : AObj} (b : Bool) (h : ORep num D id o) : ORep num D id (o.orMoved b) := by cases o <;> exact h

/-- The caller's context behind a call to which the objects l were handed. -/
def Cx.back (C D : Cx) (l : List Nat) (n' : Nat) : Cx :=
  { σ := fun id => match place l id with | some i => D.σ i | none => if id < C.n then C.σ id else D.σ (l.length + (id - C.n)), I := D.I, n := C.n + (n' - l.length), w := D.w }

theorem share_step {call : Calls'} (hcall : CallOK num P call) (hs : SRep num C s a) {f : FuncId} {args : List AV} {vals : Array Value} (hl : args.length = vals.size) (hr : ∀ (j : Nat) (x : AV) (u : Value), args[j]? = some x → vals[j]? = some u → ARep num C x u)
    {r : AV} {s' : St} (h : exShare call s (num f) args = some (r, s')) :
    Callable P f ∧ Calls P f vals C.w (fun e w' => ∃ v D, e = .returned v ∧ D.w = w' ∧ Step num s.k C s.mem D s'.mem ∧ ERep num D s'.env a.tmps ∧ ARep num D r v ∧ s'.k = s.k) := by
  have hm := hs.mem
  have hlen := hm.len
  unfold exShare at h
  dsimp only at h
  obtain ⟨hnd, hlt, _⟩ := order_props (k := 0) (roots := AV.refs.refsL args) (m := s.mem) (Nat.zero_le _)
  generalize hlo : order 0 (AV.refs.refsL args) s.mem = l at h hnd hlt
  cases hc : call (num f) (AV.ren.renL (place l) args) (s.mem.pickAll l) with
  | none => simp [hc] at h
  | some rm =>
    obtain ⟨rv, mc⟩ := rm
    simp only [hc, Option.some.injEq, Prod.mk.injEq] at h
    obtain ⟨hrr, hss⟩ := h
    obtain ⟨hl1, hr1⟩ := args_ren (pick_tr l) hl hr
    obtain ⟨hcb, hcs⟩ := hcall f _ _ rv mc (C.pick l) vals hc (pick_rep hm hnd) hl1 hr1
    refine ⟨hcb, hcs.mono ?_⟩
    rintro e w' ⟨v, D, rfl, rfl, hst, hrv⟩
    have hpl : (s.mem.pickAll l).length = l.length := by simp [Mem.pickAll]
    rw [hpl] at hst
    have hDn := hst.rep.len
    have hkl := hst.len
    let E := C.back D l mc.length
    have hEn : E.n = C.n + (mc.length - l.length) := rfl
    have hEI : E.I = D.I := rfl
    have hEw : E.w = D.w := rfl
    let back : Nat → Option Nat := fun i => if i < l.length then l[i]? else some (s.mem.length + (i - l.length))
    let stay : Nat → Option Nat := fun id => match place l id with
      | some i => if ((mc[i]?).getD .dead).moved then none else some id
      | none => some id
    have hEσ1 : ∀ id i, place l id = some i → E.σ id = D.σ i := by
      intro id i hp
      show (match place l id with | some i => D.σ i | none => _) = _
      rw [hp]
    have hEσ2 : ∀ id, place l id = none → id < C.n → E.σ id = C.σ id := by
      intro id hp hid
      show (match place l id with | some i => D.σ i | none => if id < C.n then C.σ id else _) = _
      rw [hp]
      simp [hid]
    have hnew : ∀ i, l.length ≤ i → place l (s.mem.length + (i - l.length)) = none := fun i _ => place_none fun hmem => by have := hlt _ hmem; omega
    have hEσ3 : ∀ i, l.length ≤ i → E.σ (s.mem.length + (i - l.length)) = D.σ i := by
      intro i hi
      show (match place l (s.mem.length + (i - l.length)) with | some i => D.σ i | none => if _ < C.n then _ else D.σ (l.length + (s.mem.length + (i - l.length) - C.n))) = _
      rw [hnew i hi]
      have : ¬ (s.mem.length + (i - l.length) < C.n) := by omega
      simp only [this, if_false]
      congr 1
      omega
    have tback : Tr back D E := by
      refine ⟨fun _ h => h, fun _ _ => rfl, fun i j hi hj => ?_⟩
      simp only [back] at hj
      split at hj
      · rename_i hil
        have hp := place_of l j i hnd hj
        have hjm := hlt j (List.mem_of_getElem? hj)
        exact ⟨by rw [hEn]; omega, hEσ1 j i hp, fun arr e h => ⟨arr, h, rfl⟩⟩
      · rename_i hil
        cases hj
        exact ⟨by rw [hEn]; omega, hEσ3 i (by omega), fun arr e h => ⟨arr, h, rfl⟩⟩
    have tstay : Tr stay C E := by
      refine ⟨hst.imm, fun b hb => ?_, fun id j hid hj => ?_⟩
      · exact hst.keep b (hm.bd b hb) fun ho => by
          obtain ⟨id, o, _, ho, hlv, hb'⟩ := pick_own ho
          exact hm.imm b ⟨id, o, ho, hlv, hb'⟩ hb
      · have hsz : ∀ arr e, C.w.heap[C.σ id]? = some (.cells arr e (0, 0)) → ∃ arr', E.w.heap[C.σ id]? = some (.cells arr' e (0, 0)) ∧ arr'.size = arr.size := hst.sz _
        simp only [stay] at hj
        split at hj
        · rename_i i hp
          split at hj
          · cases hj
          · rename_i hmv
            cases hj
            have hmv' : ((mc[i]?).getD .dead).moved = false := by simpa using hmv
            obtain ⟨o', ho', he⟩ := getD_moved hmv'
            rw [he] at hmv'
            have hil : i < l.length := (List.getElem?_eq_some_iff.1 (place_get l id i hp)).1
            obtain ⟨_, _, _, hσ⟩ := hst.same i hil o' ho' hmv'
            exact ⟨by rw [hEn]; omega, by rw [hEσ1 id i hp, hσ, pick_σ (place_get l id i hp)], hsz⟩
        · rename_i hp
          cases hj
          exact ⟨by rw [hEn]; omega, hEσ2 id hp hid, hsz⟩
    -- the objects
    have hmem : s'.mem = (List.range (s.mem.length + (mc.length - l.length))).map (shareAt s l mc back stay) := congrArg St.mem hss.symm
    have hget : ∀ (id : Nat) p, s'.mem[id]? = some p → id < s.mem.length + (mc.length - l.length) ∧ p = shareAt s l mc back stay id := by
      intro id p hp
      rw [hmem] at hp
      obtain ⟨q, hq, rfl⟩ := map_get _ _ _ _ hp
      have hlt' : id < s.mem.length + (mc.length - l.length) := by have := (List.getElem?_eq_some_iff.1 hq).1; simpa using this
      rw [List.getElem?_range hlt'] at hq
      cases hq
      exact ⟨hlt', rfl⟩
    -- each live object: where it comes from
    have hcase : ∀ (id : Nat) p, s'.mem[id]? = some p → (∃ i, place l id = some i ∧ p = (((mc[i]?).getD .dead).ren back).orMoved (((s.mem[id]?).getD .dead).moved)) ∨
        (place l id = none ∧ id < s.mem.length ∧ p = ((s.mem[id]?).getD .dead).ren stay) ∨ (∃ i, l.length ≤ i ∧ i < mc.length ∧ id = s.mem.length + (i - l.length) ∧ p = ((mc[i]?).getD .dead).ren back) := by
      intro id p hp
      obtain ⟨h1, rfl⟩ := hget id p hp
      unfold shareAt
      cases hpl : place l id with
      | some i => exact .inl ⟨i, rfl, rfl⟩
      | none =>
        by_cases hid : id < s.mem.length
        · exact .inr (.inl ⟨rfl, hid, by simp [hid]⟩)
        · refine .inr (.inr ⟨l.length + (id - s.mem.length), by omega, by omega, by omega, by simp [hid]⟩)
    have hobj : ∀ (id : Nat) p, s'.mem[id]? = some p → ORep num E id p := by
      intro id p hp
      rcases hcase id p hp with ⟨i, hpl', rfl⟩ | ⟨hpl', hid, rfl⟩ | ⟨i, hi, hi2, rfl, rfl⟩
      · refine orMoved_rep _ ?_
        cases hq : mc[i]? with
        | none => trivial
        | some o => exact orep_tr tback (hEσ1 id i hpl') (fun _ h => h) (hst.rep.obj i o hq)
      · cases hq : s.mem[id]? with
        | none => trivial
        | some o =>
          by_cases hlv : o.live = true
          · refine orep_tr tstay (hEσ2 id hpl' (by omega)) (fun x h => ?_) (hm.obj id o hq)
            show D.w.heap[C.σ id]? = _
            rw [hst.keep _ (Array.getElem?_eq_some_iff.1 h).1 fun ho => ?_]
            · exact h
            · obtain ⟨id2, o2, hmem2, ho2, hlv2, hb⟩ := pick_own ho
              have := hm.inj id2 id o2 o ho2 hq hlv2 hlv hb
              subst this
              obtain ⟨i, hi⟩ := List.getElem?_of_mem hmem2
              rw [place_of l _ i hnd hi] at hpl'
              cases hpl'
          · cases o with
            | dead => trivial
            | _ => exact absurd rfl hlv
      · cases hq : mc[i]? with
        | none => trivial
        | some o => exact orep_tr tback (hEσ3 i hi) (fun _ h => h) (hst.rep.obj i o hq)
    -- a live object's block: the callee's, or one that was not handed over
    have hblock : ∀ (id : Nat) p, s'.mem[id]? = some p → p.live = true → (∃ i o, mc[i]? = some o ∧ o.live = true ∧ E.σ id = D.σ i ∧ (place l id = some i ∨ (l.length ≤ i ∧ id = s.mem.length + (i - l.length)))) ∨ (∃ o, place l id = none ∧ s.mem[id]? = some o ∧ o.live = true ∧ E.σ id = C.σ id) := by
      intro id p hp hlv
      rcases hcase id p hp with ⟨i, hpl', rfl⟩ | ⟨hpl', hid, rfl⟩ | ⟨i, hi, hi2, rfl, rfl⟩
      · rw [orMoved_live, ren_live] at hlv
        obtain ⟨o, ho, he⟩ := getD_live hlv
        rw [he] at hlv
        exact .inl ⟨i, o, ho, hlv, hEσ1 id i hpl', .inl hpl'⟩
      · rw [ren_live] at hlv
        obtain ⟨o, ho, he⟩ := getD_live hlv
        rw [he] at hlv
        exact .inr ⟨o, hpl', ho, hlv, hEσ2 id hpl' (by omega)⟩
      · rw [ren_live] at hlv
        obtain ⟨o, ho, he⟩ := getD_live hlv
        rw [he] at hlv
        exact .inl ⟨i, o, ho, hlv, hEσ3 i hi, .inr ⟨hi, rfl⟩⟩
    have hold : ∀ id o, place l id = none → s.mem[id]? = some o → o.live = true → ¬ Own D mc (C.σ id) := by
      intro id o hp ho hlv hown
      rcases hst.own _ hown with h | h
      · have := MRep.lt num hm ⟨id, o, ho, hlv, rfl⟩
        have : (C.pick l).w.heap.size = C.w.heap.size := rfl
        omega
      · obtain ⟨id2, o2, hmem2, ho2, hlv2, hb⟩ := pick_own h
        have := hm.inj id2 id o2 o ho2 ho hlv2 hlv hb
        subst this
        obtain ⟨i, hi⟩ := List.getElem?_of_mem hmem2
        rw [place_of l _ i hnd hi] at hp
        cases hp
    have hownE : ∀ b, Own E s'.mem b → Own D mc b ∨ Own C s.mem b := by
      rintro b ⟨id, p, hp, hlv, hb⟩
      rcases hblock id p hp hlv with ⟨i, o, ho, hlo, hσ, _⟩ | ⟨o, _, ho, hlo, hσ⟩
      · exact .inl ⟨i, o, ho, hlo, by rw [← hσ]; exact hb⟩
      · exact .inr ⟨id, o, ho, hlo, by rw [← hσ]; exact hb⟩
    have hpick : ∀ b, Own (C.pick l) (s.mem.pickAll l) b → Own C s.mem b := by
      intro b hb
      obtain ⟨id, o, _, ho, hlv, hb⟩ := pick_own hb
      exact ⟨id, o, ho, hlv, hb⟩
    refine ⟨v, E, rfl, rfl, ⟨⟨by rw [hmem, hEn]; simp [hlen], hobj, ?_, ?_, hst.rep.bd⟩, hst.os, hst.tape, hst.out, hst.size, fun b hb hno => hst.keep b hb fun ho => hno (hpick b ho), hst.sz, hst.imm, ?_, ?_, ?_, ?_⟩, ?_, ?_, by rw [← hss]⟩
    · intro i j p q hp hq hlp hlq he
      rcases hblock i p hp hlp with ⟨i', o, ho, hlo, hσ, hw1⟩ | ⟨o, hpn, ho, hlo, hσ⟩ <;> rcases hblock j q hq hlq with ⟨j', o2, ho2, hlo2, hσ2, hw2⟩ | ⟨o2, hpn2, ho2, hlo2, hσ2⟩
      · rw [hσ, hσ2] at he
        have := hst.rep.inj i' j' o o2 ho ho2 hlo hlo2 he
        subst this
        rcases hw1 with h1 | ⟨h1, rfl⟩ <;> rcases hw2 with h2 | ⟨h2, rfl⟩
        · have e1 := place_get l i i' h1
          have e2 := place_get l j i' h2
          rw [e1] at e2
          exact Option.some.inj e2
        · have := (List.getElem?_eq_some_iff.1 (place_get l i i' h1)).1; omega
        · have := (List.getElem?_eq_some_iff.1 (place_get l j i' h2)).1; omega
        · rfl
      · exact absurd ⟨i', o, ho, hlo, by rw [← hσ, ← hσ2]; exact he⟩ (hold j o2 hpn2 ho2 hlo2)
      · exact absurd ⟨j', o2, ho2, hlo2, by rw [← hσ2, ← hσ]; exact he.symm⟩ (hold i o hpn ho hlo)
      · rw [hσ, hσ2] at he
        exact hm.inj i j o o2 ho ho2 hlo hlo2 he
    · intro b hb hI
      rcases hownE b hb with h | h
      · exact hst.rep.imm b h hI
      · rcases hst.imm' b hI with h' | h' | h'
        · exact hm.imm b h h'
        · have := MRep.lt num hm h
          have : (C.pick l).w.heap.size = C.w.heap.size := rfl
          omega
        · -- handed over, and now never written: the caller's number is the callee's
          obtain ⟨id, p, hp, hlv, hbq⟩ := hb
          rcases hblock id p hp hlv with ⟨i, o, ho, hlo, hσ, _⟩ | ⟨o, hpn, ho, hlo, hσ⟩
          · exact hst.rep.imm b ⟨i, o, ho, hlo, by rw [← hσ]; exact hbq⟩ hI
          · obtain ⟨id2, o2, hmem2, ho2, hlv2, hb2⟩ := pick_own h'
            have := hm.inj id2 id o2 o ho2 ho hlv2 hlo (by rw [hb2, ← hσ]; exact hbq.symm)
            subst this
            obtain ⟨i, hi⟩ := List.getElem?_of_mem hmem2
            rw [place_of l _ i hnd hi] at hpn
            cases hpn
    · intro b hb
      rcases hst.imm' b hb with h | h | h
      · exact .inl h
      · exact .inr (.inl h)
      · exact .inr (.inr (hpick b h))
    · intro b hb
      rcases hownE b hb with h | h
      · rcases hst.own b h with h | h
        · exact .inl h
        · exact .inr (hpick b h)
      · exact .inr h
    · intro id hid p hp hmv
      have hk := hs.k
      rcases hcase id p hp with ⟨i, hpl', rfl⟩ | ⟨hpl', hid', rfl⟩ | ⟨i, hi, hi2, rfl, rfl⟩
      · have h1 := orMoved_moved _ _ hmv
        rw [ren_moved] at h1
        obtain ⟨o', ho', he⟩ := getD_moved h1
        rw [he] at h1
        have hil : i < l.length := (List.getElem?_eq_some_iff.1 (place_get l id i hpl')).1
        obtain ⟨o2, ho2, hmv2, hσ⟩ := hst.same i hil o' ho' h1
        obtain ⟨id2, hid2, hq2⟩ := pick_get ho2
        rw [place_get l id i hpl'] at hid2
        cases hid2
        rw [hq2, ren_moved] at hmv2
        obtain ⟨o3, ho3, he3⟩ := getD_moved hmv2
        rw [he3] at hmv2
        exact ⟨o3, ho3, hmv2, by rw [hEσ1 id i hpl', hσ, pick_σ (place_get l id i hpl')]⟩
      · rw [ren_moved] at hmv
        obtain ⟨o, ho, he⟩ := getD_moved hmv
        rw [he] at hmv
        exact ⟨o, ho, hmv, hEσ2 id hpl' (by omega)⟩
      · omega
    · rw [hmem]; simp; have := hs.k; omega
    · have : s'.env = s.env.ren stay := congrArg St.env hss.symm
      rw [this]
      exact hs.env.tr tstay
    · rw [← hrr]
      exact hrv.tr tback

end
end Go.EX
