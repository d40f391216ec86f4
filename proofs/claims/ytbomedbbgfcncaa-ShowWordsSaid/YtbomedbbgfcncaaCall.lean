/-
  EX: calls.
-/
import Derived.Test.YtbomedbbgfcncaaEq
set_option linter.unusedVariables false
set_option linter.unusedSimpArgs false
namespace Go.EX

section
variable {num : FuncId → Nat} {P : Program}
variable {ty : TypeId} {pos : String} {after : Array Edge} {a : Act} {C : Cx} {s : St}

/-- A function that a call enters. -/
def Callable (P : Program) (f : FuncId) : Prop := ∃ fn, P.funcs[f]? = some fn ∧ fn.name ≠ "runtime.NumGoroutine" ∧ fn.body.isSome = true

/-- What is asked of the calls that the interpreter knows. -/
def CallOK (num : FuncId → Nat) (P : Program) (call : Calls') : Prop :=
  ∀ f args m r m' C (vals : Array Value), call (num f) args m = some (r, m') → MRep num C m → args.length = vals.size → (∀ (j : Nat) (x : AV) (u : Value), args[j]? = some x → vals[j]? = some u → ARep num C x u) →
    Callable P f ∧ Calls P f vals C.w (fun e w' => ∃ v D, e = .returned v ∧ D.w = w' ∧ Step num m.length C m D m' ∧ ARep num D r v)

/-- The operation is a call; behind it stands a value for x, in a world of which s' speaks. -/
def CallsTo (num : FuncId → Nat) (P : Program) (op : Op) (ty : TypeId) (pos : String) (after : Array Edge) (a : Act) (C : Cx) (s : St) (x : AV) (s' : St) : Prop :=
  ∃ f vals, (∀ dst g, (execOp a.eval ⟨dst, op, ty, pos, after, g⟩).run P C.w = .ok (.enter f vals) C.w) ∧
    Calls P f vals C.w (fun e w' => ∃ v D, e = .returned v ∧ D.w = w' ∧ Step num s.k C s.mem D s'.mem ∧ ERep num D s'.env a.tmps ∧ ARep num D x v ∧ s'.k = s.k)

/-! ### a world with more blocks -/

theorem ext_tr {m : Mem} (hm : MRep num C m) {w' : World} {J : Nat → Prop} (hk : ∀ b, b < C.w.heap.size → w'.heap[b]? = C.w.heap[b]?) (hI : ∀ b, C.I b → J b) : Tr some C { σ := C.σ, I := J, n := C.n, w := w' } := by
  refine ⟨hI, fun b hb => hk b (hm.bd b hb), fun i j hi hj => ?_⟩
  cases hj
  exact ⟨hi, rfl, fun arr e h => ⟨arr, by show w'.heap[_]? = _; rw [hk _ (Array.getElem?_eq_some_iff.1 h).1]; exact h, rfl⟩⟩

theorem ext_step {m : Mem} (hm : MRep num C m) {w' : World} {J : Nat → Prop} (hos : w'.os = C.w.os) (htp : w'.tape = C.w.tape) (hout : w'.output = C.w.output) (hsize : C.w.heap.size ≤ w'.heap.size) (hk : ∀ b, b < C.w.heap.size → w'.heap[b]? = C.w.heap[b]?)
    (hI : ∀ b, C.I b → J b) (hI' : ∀ b, J b → C.I b ∨ C.w.heap.size ≤ b) (hbd : ∀ b, J b → b < w'.heap.size) {k : Nat} (hkm : k ≤ m.length) : Step num k C m { σ := C.σ, I := J, n := C.n, w := w' } m := by
  have ht := ext_tr hm hk hI
  have hown : ∀ b, Own { σ := C.σ, I := J, n := C.n, w := w' } m b → Own C m b := fun b h => h
  refine ⟨⟨hm.len, fun i o ho => ?_, hm.inj, fun b hb hJ => ?_, hbd⟩, hos, htp, hout, hsize, fun b hb _ => hk b hb, fun b arr e h => ⟨arr, by show w'.heap[b]? = _; rw [hk b (Array.getElem?_eq_some_iff.1 h).1]; exact h, rfl⟩, hI, fun b hb => ?_, fun b hb => .inr (hown b hb), fun i _ o' ho hmv => ⟨o', ho, hmv, rfl⟩, hkm⟩
  · have hob := hm.obj i o ho
    exact orep_mono ht rfl (fun x h => by show w'.heap[_]? = _; rw [hk _ (Array.getElem?_eq_some_iff.1 h).1]; exact h) hob
  · rcases hI' b hJ with h | h
    · exact hm.imm b hb h
    · have := MRep.lt num hm hb; omega
  · rcases hI' b hb with h | h
    · exact .inl h
    · exact .inr (.inl h)

theorem frz_flat (m : Mem) (n : Nat) (x : IV) : frzV m n (.imm x) = some x := by cases n <;> rfl

theorem mapM_get {α β : Type} (f : α → Option β) : ∀ (l : List α) (r : List β), l.mapM f = some r → r.length = l.length ∧ ∀ (j : Nat) y, r[j]? = some y → ∃ x, l[j]? = some x ∧ f x = some y
  | [], r, h => by simp at h; subst h; exact ⟨rfl, fun j y hy => by simp at hy⟩
  | x :: l, r, h => by
    simp only [List.mapM_cons, Option.bind_eq_bind, Option.bind_eq_some_iff, Option.pure_def, Option.some.injEq] at h
    obtain ⟨y, hy, r', hr, rfl⟩ := h
    obtain ⟨h1, h2⟩ := mapM_get f l r' hr
    refine ⟨by simp [h1], fun j z hz => ?_⟩
    cases j with
    | zero => simp at hz; subst hz; exact ⟨x, rfl, hy⟩
    | succ j => simp at hz; obtain ⟨q, h3, h4⟩ := h2 j z hz; exact ⟨q, by simpa using h3, h4⟩

/-- A value by content, while nothing that is owned is written: all owned blocks count as never written. -/
def Cx.view (C : Cx) (m : Mem) (num : FuncId → Nat) : Cx := { σ := C.σ, I := fun b => C.I b ∨ Own C m b, n := 0, w := C.w }

theorem view_rep {m : Mem} (hm : MRep num C m) : MRep num (C.view m num) [] :=
  ⟨rfl, fun i o h => by simp at h, fun i j o p h => by simp at h, fun b ⟨i, o, h, _⟩ => by simp at h, fun b hb => by
    rcases hb with h | h
    · exact hm.bd b h
    · exact MRep.lt num hm h⟩

theorem frzV_rep {m : Mem} (hm : MRep num C m) : ∀ (n : Nat) (x : AV) (y : IV) (v : Value), frzV m n x = some y → ARep num C x v → IRep (C.view m num).I C.w y v
  | n, .imm x, y, v, h, hx => by
    rw [frz_flat] at h
    cases h
    cases hx with | imm _ _ hx => exact hx.mono (fun _ h => .inl h) (fun _ _ => rfl)
  | 0, .osl .., y, v, h, hx => by cases h
  | 0, .optr .., y, v, h, hx => by cases h
  | n, .omap .., y, v, h, hx => by cases n <;> cases h
  | n, .clo .., y, v, h, hx => by cases n <;> cases h
  | n, .agg .., y, v, h, hx => by cases n <;> cases h
  | n, .tup .., y, v, h, hx => by cases n <;> cases h
  | n, .junk, y, v, h, hx => by cases n <;> cases h
  | n + 1, .osl id off sz len cap, y, v, h, hx => by
    simp only [frzV] at h
    cases hx with
    | osl _ _ _ _ _ c ad arr0 e0 hid hl hk ha hw hs =>
      split at h
      · rename_i cs mv ho
        cases h
        obtain ⟨arr, e, h1, h2⟩ := hm.obj id _ ho
        have hget : ∀ (j : Nat) x, cs[j]? = some x → C.w.cell? ⟨C.σ id, 0 + j, none⟩ = some (arr.getD j undef) ∧ IRep C.I C.w x (arr.getD j undef) := by
          intro j x hx
          obtain ⟨u, hu, hr⟩ := h2 j x hx
          have : arr.getD j undef = u := by simp [Array.getD_eq_getD_getElem?, hu]
          rw [this]
          exact ⟨by rw [cell_of_row C.w _ _ arr e _ h1, Nat.zero_add]; exact hu, hr⟩
        exact .slice cs off len cap (C.σ id) 0 c ad (fun j => arr.getD j undef) (.inr ⟨id, _, ho, rfl, rfl⟩) (fun j x hx => (hget j x hx).1) (fun j x hx => (hget j x hx).2.mono (fun _ h => .inl h) (fun _ _ => rfl)) hl hk (by rw [Nat.zero_add]; exact ha)
      · rename_i cs ho
        simp only [Option.map_eq_some_iff] at h
        obtain ⟨row, hrow, rfl⟩ := h
        obtain ⟨arr, e, h1, h2⟩ := hm.obj id _ ho
        obtain ⟨_, h4⟩ := mapM_get _ _ _ hrow
        have hget : ∀ (j : Nat) x, row[j]? = some x → C.w.cell? ⟨C.σ id, 0 + j, none⟩ = some (arr.getD j undef) ∧ IRep (C.view m num).I C.w x (arr.getD j undef) := by
          intro j x hx
          obtain ⟨q, hq, hf⟩ := h4 j x hx
          obtain ⟨u, hu, _, hr⟩ := h2 j q hq
          have : arr.getD j undef = u := by simp [Array.getD_eq_getD_getElem?, hu]
          rw [this]
          exact ⟨by rw [cell_of_row C.w _ _ arr e _ h1, Nat.zero_add]; exact hu, frzV_rep hm n q x u hf hr⟩
        exact .slice row off len cap (C.σ id) 0 c ad (fun j => arr.getD j undef) (.inr ⟨id, _, ho, rfl, rfl⟩) (fun j x hx => (hget j x hx).1) (fun j x hx => (hget j x hx).2) hl hk (by rw [Nat.zero_add]; exact ha)
      · cases h
  | n + 1, .optr id off, y, v, h, hx => by
    simp only [frzV] at h
    cases hx with
    | optr _ _ hid =>
      split at h
      · rename_i cs mv ho
        cases h
        obtain ⟨arr, e, h1, h2⟩ := hm.obj id _ ho
        have hget : ∀ (j : Nat) x, cs[j]? = some x → C.w.cell? ⟨C.σ id, 0 + j, none⟩ = some (arr.getD j undef) ∧ IRep C.I C.w x (arr.getD j undef) := by
          intro j x hx
          obtain ⟨u, hu, hr⟩ := h2 j x hx
          have : arr.getD j undef = u := by simp [Array.getD_eq_getD_getElem?, hu]
          rw [this]
          exact ⟨by rw [cell_of_row C.w _ _ arr e _ h1, Nat.zero_add]; exact hu, hr⟩
        have := IRep.ptr (I := (C.view m num).I) (w := C.w) cs off (C.σ id) 0 (fun j => arr.getD j undef) (.inr ⟨id, _, ho, rfl, rfl⟩) (fun j x hx => (hget j x hx).1) (fun j x hx => (hget j x hx).2.mono (fun _ h => .inl h) (fun _ _ => rfl))
        rwa [Nat.zero_add] at this
      · rename_i cs ho
        simp only [Option.map_eq_some_iff] at h
        obtain ⟨row, hrow, rfl⟩ := h
        obtain ⟨arr, e, h1, h2⟩ := hm.obj id _ ho
        obtain ⟨_, h4⟩ := mapM_get _ _ _ hrow
        have hget : ∀ (j : Nat) x, row[j]? = some x → C.w.cell? ⟨C.σ id, 0 + j, none⟩ = some (arr.getD j undef) ∧ IRep (C.view m num).I C.w x (arr.getD j undef) := by
          intro j x hx
          obtain ⟨q, hq, hf⟩ := h4 j x hx
          obtain ⟨u, hu, _, hr⟩ := h2 j q hq
          have : arr.getD j undef = u := by simp [Array.getD_eq_getD_getElem?, hu]
          rw [this]
          exact ⟨by rw [cell_of_row C.w _ _ arr e _ h1, Nat.zero_add]; exact hu, frzV_rep hm n q x u hf hr⟩
        have := IRep.ptr (I := (C.view m num).I) (w := C.w) row off (C.σ id) 0 (fun j => arr.getD j undef) (.inr ⟨id, _, ho, rfl, rfl⟩) (fun j x hx => (hget j x hx).1) (fun j x hx => (hget j x hx).2)
        rwa [Nat.zero_add] at this
      · cases h

theorem frz_agg {m : Mem} (hm : MRep num C m) {k : Nat} {cells : List AV} {l : List IV} {v : Value} (h : cells.mapM (frzV m k) = some l) (hx : ARep num C (.agg cells) v) (D : Cx) (hI : ∀ b, (C.view m num).I b → D.I b) (hw : D.w = C.w) : ARep num D (.agg (l.map .imm)) v := by
  cases hx with
  | agg _ vs hl h1 hr =>
    obtain ⟨h2, h3⟩ := mapM_get _ _ _ h
    refine .agg _ vs (by rw [List.length_map, h2]; exact hl) h1 fun j x u hx hu => ?_
    rw [List.getElem?_map] at hx
    cases hq : l[j]? with
    | none => simp [hq] at hx
    | some y =>
      simp [hq] at hx
      subst hx
      obtain ⟨q, h4, h5⟩ := h3 j y hq
      exact .imm _ _ ((frzV_rep hm k q y u h5 (hr j q u h4 hu)).mono hI (fun b _ => by rw [hw]))

/-- What is handed over by content. -/
theorem frz_rep {m : Mem} (hm : MRep num C m) {x y : AV} {v : Value} (h : frz m x = some y) (hx : ARep num C x v) (D : Cx) (hI : ∀ b, (C.view m num).I b → D.I b) (hw : D.w = C.w) : ARep num D y v := by
  have one : ∀ z, (frzV m 20 x).map AV.imm = some z → ARep num D z v := by
    intro z hz
    simp only [Option.map_eq_some_iff] at hz
    obtain ⟨i, hi, rfl⟩ := hz
    exact .imm _ _ ((frzV_rep hm 20 x i v hi hx).mono hI (fun b _ => by rw [hw]))
  unfold frz at h
  split at h
  · rename_i cells
    simp only [Option.map_eq_some_iff] at h
    obtain ⟨l, hl, rfl⟩ := h
    exact frz_agg hm hl hx D hI hw
  · rename_i vs
    simp only [Option.map_eq_some_iff] at h
    obtain ⟨l, hl, rfl⟩ := h
    cases hx with
    | tup _ us hlen hr =>
      obtain ⟨h2, h3⟩ := mapM_get _ _ _ hl
      refine .tup _ us (by rw [h2]; exact hlen) fun j x u hx hu => ?_
      obtain ⟨q, h4, h5⟩ := h3 j x hx
      have hq := hr j q u h4 hu
      unfold frz.frz1 at h5
      split at h5
      · simp only [Option.map_eq_some_iff] at h5
        obtain ⟨l', hl', rfl⟩ := h5
        exact frz_agg hm hl' hq D hI hw
      · simp only [Option.map_eq_some_iff] at h5
        obtain ⟨i, hi, rfl⟩ := h5
        exact .imm _ _ ((frzV_rep hm 20 q i u hi hq).mono hI (fun b _ => by rw [hw]))
  · exact one _ h

/-- A value by content stays what it is. -/
theorem frz_imm {m : Mem} {x y : AV} (hi : x.isImm = true) (h : frz m x = some y) : y = x := by
  unfold AV.isImm at hi
  split at hi
  · rename_i z
    simp [frz, frz_flat] at h
    exact h.symm
  · rename_i cells
    obtain ⟨xs, hxs⟩ := Option.isSome_iff_exists.1 hi
    have := imms_get cells xs hxs
    subst this
    simp only [frz] at h
    have hm : ∀ l : List IV, (l.map AV.imm).mapM (frzV m 20) = some l := by
      intro l
      induction l with
      | nil => rfl
      | cons z l ih => simp [frz_flat, ih]
    rw [hm] at h
    exact (Option.some.inj h).symm
  · cases hi

theorem imm_any {x : AV} (hi : x.isImm = true) {v : Value} (hx : ARep num C x v) (D : Cx) (hI : ∀ b, C.I b → D.I b) (hw : D.w = C.w) : ARep num D x v := by
  unfold AV.isImm at hi
  split at hi
  · cases hx with | imm _ _ h => exact .imm _ _ (h.mono hI (fun b _ => by rw [hw]))
  · rename_i cells
    obtain ⟨xs, hxs⟩ := Option.isSome_iff_exists.1 hi
    have := imms_get cells xs hxs
    subst this
    cases hx with
    | agg _ vs hl h1 hr =>
      refine .agg _ vs hl h1 fun j x u hx hu => ?_
      have hr' := hr j x u hx hu
      rw [List.getElem?_map] at hx
      cases hq : xs[j]? with
      | none => simp [hq] at hx
      | some y => simp [hq] at hx; subst hx; cases hr' with | imm _ _ h => exact .imm _ _ (h.mono hI (fun b _ => by rw [hw]))
  · cases hi

theorem plain1_any {x : AV} (hp : x.plain1 = true) {v : Value} (hx : ARep num C x v) (D : Cx) : ARep num D x v := by
  unfold AV.plain1 at hp
  split at hp
  · cases hx with | imm _ _ h => cases h with | val _ h => exact .imm _ _ (.val _ h)
  · cases hp

theorem plain2_any {x : AV} (hp : x.plain2 = true) {v : Value} (hx : ARep num C x v) (D : Cx) : ARep num D x v := by
  unfold AV.plain2 at hp
  split at hp
  · rename_i cells
    cases hx with
    | agg _ vs hl h1 hr => exact .agg _ vs hl h1 fun j x u hx hu => plain1_any (List.all_eq_true.1 hp x (List.mem_of_getElem? hx)) (hr j x u hx hu) D
  · exact plain1_any hp hx D

theorem plain_any {x : AV} (hp : x.plain = true) {v : Value} (hx : ARep num C x v) (D : Cx) : ARep num D x v := by
  unfold AV.plain at hp
  split at hp
  · rename_i xs
    cases hx with
    | tup _ vs hl hr => exact .tup _ vs hl fun j x u hx hu => plain2_any (List.all_eq_true.1 hp x (List.mem_of_getElem? hx)) (hr j x u hx hu) D
  · exact plain2_any hp hx D

/-- Arguments by content. -/
theorem args_frz {m : Mem} (hm : MRep num C m) {args bs : List AV} (h : args.mapM (frz m) = some bs) {vals : Array Value} (hl : args.length = vals.size) (hr : ∀ (j : Nat) (x : AV) (u : Value), args[j]? = some x → vals[j]? = some u → ARep num C x u)
    (D : Cx) (hI : ∀ b, (C.view m num).I b → D.I b) (hw : D.w = C.w) : bs.length = vals.size ∧ ∀ (j : Nat) (x : AV) (u : Value), bs[j]? = some x → vals[j]? = some u → ARep num D x u := by
  obtain ⟨h1, h2⟩ := mapM_get _ _ _ h
  refine ⟨by rw [h1]; exact hl, fun j x u hx hu => ?_⟩
  obtain ⟨q, h3, h4⟩ := h2 j x hx
  exact frz_rep hm h4 (hr j q u h3 hu) D hI hw

/-- A call's operands. -/
theorem args_rep (hs : SRep num C s a) : ∀ (xs : List Operand) (ys : List Src), xs.mapM (trSrc num) = some ys → (ys.map s.env.ev).length = (xs.map a.eval).toArray.size ∧ ∀ (j : Nat) (x : AV) (u : Value), (ys.map s.env.ev)[j]? = some x → (xs.map a.eval).toArray[j]? = some u → ARep num C x u := by
  intro xs ys h
  obtain ⟨h1, h2⟩ := mapM_get _ _ _ h
  refine ⟨by simp [h1], fun j x u hx hu => ?_⟩
  obtain ⟨y, hy, rfl⟩ := map_get _ _ _ _ hx
  obtain ⟨o, ho, ht⟩ := h2 j y hy
  have : u = a.eval o := by simp [ho] at hu; exact hu.symm
  rw [this]
  exact src_rep hs ht

theorem run_call {f : FuncId} (hc : Callable P f) (args : Array Operand) (ats : Array TypeId) (w : World) (dst : Option Tmp) (g : Option (Nat × Bool)) :
    (execOp a.eval ⟨dst, .call { callee := .value (.func f), args := args, argTypes := ats }, ty, pos, after, g⟩).run P w = .ok (.enter f (args.toList.map a.eval).toArray) w := by
  obtain ⟨fn, h1, h2, h3⟩ := hc
  obtain ⟨body, hb⟩ := Option.isSome_iff_exists.1 h3
  have harr : args.map a.eval = (args.toList.map a.eval).toArray := by apply Array.ext'; simp
  simp [execOp, resolve, Deferred.ofValue, Act.eval, invoke, callFunc, h1, h2, hb, harr]

/-- A call by content, the result by content. -/
theorem y_view {call : Calls'} (hcall : CallOK num P call) (hs : SRep num C s a) {f : FuncId} {args : Array Operand} {ats : Array TypeId} {ys : List Src} (hy : args.toList.mapM (trSrc num) = some ys) {r : AV} {s' : St} (h : exView call s (num f) (ys.map s.env.ev) = some (r, s')) :
    CallsTo num P (.call { callee := .value (.func f), args := args, argTypes := ats }) ty pos after a C s r s' := by
  have hm := hs.mem
  obtain ⟨hl, hr⟩ := args_rep hs args.toList ys hy
  unfold exView at h
  cases hf : (ys.map s.env.ev).mapM (frz s.mem) with
  | none => simp [hf] at h
  | some bs =>
    simp only [hf] at h
    cases hc : call (num f) bs [] with
    | none => simp [hc] at h
    | some rm =>
      obtain ⟨rv, mc⟩ := rm
      simp only [hc] at h
      split at h
      · rename_i hp
        cases h
        have hvr := view_rep hm
        obtain ⟨h1, h2⟩ := args_frz hm hf hl hr (C.view s.mem num) (fun _ h => h) rfl
        obtain ⟨hcb, hcs⟩ := hcall f bs [] r mc _ _ hc hvr h1 h2
        refine ⟨f, _, fun dst g => run_call hcb args ats C.w dst g, hcs.mono ?_⟩
        rintro e w' ⟨v, D, rfl, rfl, hst, hrv⟩
        have hk : ∀ b, b < C.w.heap.size → D.w.heap[b]? = C.w.heap[b]? := fun b hb => hst.keep b hb fun ⟨i, o, h, _⟩ => by simp at h
        have htr := ext_tr (J := C.I) hm hk (fun _ h => h)
        have hext := ext_step (J := C.I) hm hst.os hst.tape hst.out hst.size hk (fun _ h => h) (fun _ h => .inl h) (fun b hb => Nat.lt_of_lt_of_le (hm.bd b hb) hst.size) hs.k
        exact ⟨v, { σ := C.σ, I := C.I, n := C.n, w := D.w }, rfl, rfl, hext, hs.env.mono htr, plain_any hp hrv _, rfl⟩
      · split at h
        · rename_i _ himm
          simp only [Option.map_eq_some_iff, Prod.mk.injEq] at h
          obtain ⟨r', hr', rfl, rfl⟩ := h
          -- the callee sees what is never written, and nothing that is owned
          let C0 : Cx := { σ := C.σ, I := C.I, n := 0, w := C.w }
          have hC0 : MRep num C0 [] := ⟨rfl, fun i o h => by simp at h, fun i j o p h => by simp at h, fun b ⟨i, o, h, _⟩ => by simp at h, hm.bd⟩
          obtain ⟨h1, h2⟩ := mapM_get _ _ _ hf
          have h3 : ∀ (j : Nat) (x : AV) (u : Value), bs[j]? = some x → (args.toList.map a.eval).toArray[j]? = some u → ARep num C0 x u := by
            intro j x u hx hu
            obtain ⟨q, hq, hfq⟩ := h2 j x hx
            have hqi := List.all_eq_true.1 himm q (List.mem_of_getElem? hq)
            have := frz_imm hqi hfq
            subst this
            exact imm_any hqi (hr j x u hq hu) C0 (fun _ h => h) rfl
          obtain ⟨hcb, hcs⟩ := hcall f bs [] rv mc C0 _ hc hC0 (by rw [h1]; exact hl) h3
          refine ⟨f, _, fun dst g => run_call hcb args ats C.w dst g, hcs.mono ?_⟩
          rintro e w' ⟨v, D, rfl, rfl, hst, hrv⟩
          have hk : ∀ b, b < C.w.heap.size → D.w.heap[b]? = C.w.heap[b]? := fun b hb => hst.keep b hb fun ⟨i, o, h, _⟩ => by simp at h
          have hJ1 : ∀ b, C.I b → (D.view mc num).I b := fun b hb => .inl (hst.imm b hb)
          have hJ2 : ∀ b, (D.view mc num).I b → C.I b ∨ C.w.heap.size ≤ b := by
            intro b hb
            rcases hb with hb | hb
            · rcases hst.imm' b hb with h | h | ⟨i, o, h, _⟩
              · exact .inl h
              · exact .inr h
              · simp at h
            · rcases hst.own b hb with h | ⟨i, o, h, _⟩
              · exact .inr h
              · simp at h
          have hJ3 : ∀ b, (D.view mc num).I b → b < D.w.heap.size := (view_rep hst.rep).bd
          exact ⟨v, { σ := C.σ, I := (D.view mc num).I, n := C.n, w := D.w }, rfl, rfl, ext_step hm hst.os hst.tape hst.out hst.size hk hJ1 hJ2 hJ3 hs.k, hs.env.mono (ext_tr hm hk hJ1), frz_rep hst.rep hr' hrv _ (fun _ h => h) rfl, rfl⟩
        · cases h

end
end Go.EX
