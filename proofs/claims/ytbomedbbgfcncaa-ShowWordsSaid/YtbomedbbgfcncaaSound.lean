/-
  EX: whatever operation the interpreter does, the world does.
-/
import Derived.Test.YtbomedbbgfcncaaCopy
set_option linter.unusedVariables false
set_option linter.unusedSimpArgs false
namespace Go.EX

section
variable {num : FuncId → Nat} {P : Program}
variable {ty : TypeId} {pos : String} {after : Array Edge} {a : Act} {C : Cx} {s : St}

/-- An operation that leaves the objects of the interpreter, and its environment, alone. -/
theorem calm_same {call : Calls'} {x : XOp} (hc : calmOp x = true) (hm : ∀ m f as, x = .call m f as → m = .view) {r : AV} {s' : St} (h : exOp call s x = some (r, s')) : s' = s := by
  have hmap : ∀ {α : Type} (o : Option α) (f : α → AV × St), (∀ v, (f v).2 = s) → o.map f = some (r, s') → s' = s := by
    intro α o f hf ho
    cases o with
    | none => cases ho
    | some v => have := hf v; cases ho' : f v; rw [Option.map_some, ho'] at ho; cases ho; rw [ho'] at this; exact this
  cases x with
  | call mode fn args =>
    have := hm mode fn args rfl
    subst this
    simp only [exOp, exView] at h
    split at h
    · cases h
    · split at h
      · cases h
      · split at h
        · cases h; rfl
        · split at h
          · exact hmap _ _ (fun _ => rfl) h
          · cases h
  | mv | pick | build | load | nilCheck | bin | binB | eqNil | eqCells | un | conv | convS | fieldA | field | idxA | idxS | slice | sliceS | len | lenS | cap | extract | mkClo | lookup | lenM =>
    simp only [exOp] at h
    repeat' (first | (cases h; rfl) | (cases h; done) | exact hmap _ _ (fun _ => rfl) h | split at h)
  | alloc | box | buildSlice | store | frz | append | makeSlice | copy | callV | makeMap | mapSet => cases hc

theorem parts_some {place : Nat → Option (Nat × Nat)} {ps : List (Nat × Operand)} {α : Type} {f : List (Nat × Nat × Src) → α} {y : α} (h : (trParts num place ps).map f = some y) : ∃ qs, trParts num place ps = some qs ∧ f qs = y := by
  simpa [Option.map_eq_some_iff] using h

theorem src_map {x : Operand} {α : Type} {f : Src → α} {y : α} (h : (trSrc num x).map f = some y) : ∃ z, trSrc num x = some z ∧ f z = y := by
  simpa [Option.map_eq_some_iff] using h

/-- What an operation comes to. -/
def Does (num : FuncId → Nat) (P : Program) (op : Op) (ty : TypeId) (pos : String) (after : Array Edge) (a : Act) (C : Cx) (s : St) (x : AV) (s' : St) : Prop :=
  Yields num P op ty pos after a C s x s' ∨ CallsTo num P op ty pos after a C s x s'

theorem exOp_does {call : Calls'} (hcall : CallOK num P call) (hs : SRep num C s a) {op : Op} {x : XOp} (htr : trOp P num op = some x.wipe) {r : AV} {s' : St} (h : exOp call s x = some (r, s')) : Does num P op ty pos after a C s r s' := by
  cases op with
  | move o =>
    simp only [trOp] at htr
    obtain ⟨z, hz, hx⟩ := src_map htr
    cases x <;> simp only [XOp.wipe, XOp.mv.injEq, reduceCtorEq] at hx
    · subst hx; cases h; exact .inl (y_mv hs hz)
    · cases h
  | assign o =>
    simp only [trOp] at htr
    obtain ⟨z, hz, hx⟩ := src_map htr
    cases x <;> simp only [XOp.wipe, XOp.mv.injEq, reduceCtorEq] at hx
    · subst hx; cases h; exact .inl (y_assign hs hz)
    · cases h
  | pick c o1 o2 =>
    simp only [trOp] at htr
    split at htr
    · rename_i c' a' b' e1 e2 e3
      simp only [Option.some.injEq] at htr
      cases x <;> simp only [XOp.wipe, XOp.pick.injEq, reduceCtorEq] at htr
      obtain ⟨rfl, rfl, rfl⟩ := htr
      simp only [exOp] at h
      split at h
      · rename_i t ht
        cases h
        exact .inl (y_pick hs e1 e2 e3 ht)
      · cases h
    · cases htr
  | alloc t =>
    simp only [trOp] at htr
    split at htr
    · rename_i zs hz
      split at htr
      · rename_i hone
        simp only [Option.some.injEq] at htr
        cases x <;> simp only [XOp.wipe, XOp.alloc.injEq, reduceCtorEq] at htr
        subst htr
        cases h
        exact .inl (y_alloc hs hz hone)
      · cases htr
    · cases htr
  | box t o =>
    simp only [trOp] at htr
    split at htr
    · obtain ⟨z, hz, hx⟩ := src_map htr
      cases x <;> simp only [XOp.wipe, XOp.box.injEq, reduceCtorEq] at hx
      obtain ⟨rfl, rfl⟩ := hx
      simp only [exOp] at h
      cases hc : (s.env.ev z).cells with
      | none => simp [hc] at h
      | some cs => rw [hc] at h; cases h; exact .inl (y_box hs hz hc)
    · cases htr
  | build t ps =>
    simp only [trOp] at htr
    split at htr
    · cases htr
    · rename_i zs hz
      split at htr
      · cases htr
      · rename_i hone
        have hone' : zs.all oneCellV = true := by simpa using hone
        split at htr
        · rename_i fs ht
          split at htr
          · rename_i hk
            obtain ⟨qs, hq, hx⟩ := parts_some htr
            cases x <;> simp only [XOp.wipe, XOp.build.injEq, reduceCtorEq] at hx
            obtain ⟨rfl, rfl⟩ := hx
            simp only [exOp] at h
            cases hf : fillAll (imZ zs) (qs.map fun (o, n, x) => (o, n, s.env.ev x)) with
            | none => rw [hf] at h; cases h
            | some cs => rw [hf] at h; cases h; exact .inl (y_build hs hz hone' hq (.inl ⟨fs, ht, hk, rfl⟩) hf)
          · cases htr
        · rename_i n e ht
          split at htr
          · rename_i hk
            obtain ⟨qs, hq, hx⟩ := parts_some htr
            cases x <;> simp only [XOp.wipe, XOp.build.injEq, reduceCtorEq] at hx
            obtain ⟨rfl, rfl⟩ := hx
            simp only [exOp] at h
            cases hf : fillAll (imZ zs) (qs.map fun (o, n, x) => (o, n, s.env.ev x)) with
            | none => rw [hf] at h; cases h
            | some cs => rw [hf] at h; cases h; exact .inl (y_build hs hz hone' hq (.inr ⟨n, e, ht, hk, rfl⟩) hf)
          · cases htr
        · cases htr
  | buildSlice t len ps =>
    simp only [trOp] at htr
    split at htr
    · rename_i e ht
      split at htr
      · rename_i zs hz
        split at htr
        · rename_i hc
          simp only [Bool.and_eq_true, decide_eq_true_eq] at hc
          obtain ⟨⟨⟨⟨hk, hone⟩, hbig⟩, h0⟩, hzl⟩ := hc
          obtain ⟨qs, hq, hx⟩ := parts_some htr
          cases x <;> simp only [XOp.wipe, XOp.buildSlice.injEq, reduceCtorEq] at hx
          obtain ⟨rfl, rfl, rfl, rfl⟩ := hx
          simp only [exOp] at h
          cases hf : fillAll (imZ (copies len zs)) (qs.map fun (o, n, x) => (o, n, s.env.ev x)) with
          | none => rw [hf] at h; cases h
          | some cs => rw [hf] at h; cases h; exact .inl (y_buildSlice hs ht hz hk hone hbig h0 hzl hq hf)
        · cases htr
      · cases htr
    · cases htr
  | load t o =>
    simp only [trOp] at htr
    split at htr
    · rename_i hk
      obtain ⟨z, hz, hx⟩ := src_map htr
      cases x <;> simp only [XOp.wipe, XOp.load.injEq, reduceCtorEq] at hx
      obtain ⟨rfl, rfl⟩ := hx
      simp only [exOp] at h
      cases hl : loadAt s.mem (aggOf P t) (s.env.ev z) with
      | none => rw [hl] at h; cases h
      | some v => rw [hl] at h; cases h; exact .inl (y_load hs hk hz hl)
    · cases htr
  | store t o1 o2 =>
    simp only [trOp] at htr
    split at htr
    · rename_i hk
      split at htr
      · rename_i p' x' e1 e2
        simp only [Option.some.injEq] at htr
        cases x <;> simp only [XOp.wipe, XOp.store.injEq, reduceCtorEq] at htr
        obtain ⟨rfl, rfl, rfl⟩ := htr
        simp only [exOp] at h
        split at h
        · rename_i cs hc
          split at h
          · rename_i hn
            cases hst : storeAt s.mem (s.env.ev p') cs with
            | none => rw [hst] at h; cases h
            | some m => rw [hst] at h; cases h; exact .inl (y_store hs hk e1 e2 hc hn hst)
          · cases h
        · cases h
      · cases htr
    · cases htr
  | nilCheck o =>
    simp only [trOp] at htr
    obtain ⟨z, hz, hx⟩ := src_map htr
    cases x <;> simp only [XOp.wipe, XOp.nilCheck.injEq, reduceCtorEq] at hx
    subst hx
    simp only [exOp] at h
    split at h
    · rename_i hn; cases h; exact .inl (y_nilCheck hs hz hn)
    · cases h
  | binOp op t o1 o2 yt =>
    simp only [trOp] at htr
    have bin : ∀ (x' y' : Src), trSrc num o1 = some x' → trSrc num o2 = some y' → x.wipe = .bin op x' y' → Does num P (.binOp op t o1 o2 yt) ty pos after a C s r s' := by
      intro x' y' e1 e2 hx
      cases x <;> simp only [XOp.wipe, XOp.bin.injEq, reduceCtorEq] at hx
      obtain ⟨rfl, rfl, rfl⟩ := hx
      simp only [exOp] at h
      split at h
      · rename_i u v hu hv
        simp only [Option.map_eq_some_iff, Prod.mk.injEq] at h
        obtain ⟨q, hq, rfl, rfl⟩ := h
        exact .inl (y_bin hs e1 e2 hu hv hq)
      · cases h
    split at htr
    · rename_i e1 e2; exact bin _ _ e1 e2 (Option.some.inj htr).symm
    · rename_i e1 e2; exact bin _ _ e1 e2 (Option.some.inj htr).symm
    · rename_i x' y' ht e1 e2
      have hx := (Option.some.inj htr).symm
      cases x <;> simp only [XOp.wipe, XOp.binB.injEq, reduceCtorEq] at hx
      obtain ⟨rfl, rfl, rfl⟩ := hx
      simp only [exOp] at h
      split at h
      · rename_i u v hu hv
        simp only [Option.map_eq_some_iff, Prod.mk.injEq] at h
        obtain ⟨q, hq, rfl, rfl⟩ := h
        exact .inl (y_binB hs e1 e2 ht hu hv hq)
      · cases h
    · rename_i fs x' y' ht e1 e2
      split at htr
      · rename_i ks hf
        have hx := (Option.some.inj htr).symm
        cases x <;> simp only [XOp.wipe, XOp.eqCells.injEq, reduceCtorEq] at hx
        obtain ⟨rfl, rfl, rfl, rfl⟩ := hx
        simp only [exOp] at h
        split at h
        · rename_i xs ys h1 h2
          simp only [Option.map_eq_some_iff, Prod.mk.injEq] at h
          obtain ⟨b, hb, rfl, rfl⟩ := h
          exact .inl (y_eqCells (neg := false) hs e1 e2 hf h1 h2 hb)
        · cases h
      · rename_i ks hf
        have hx := (Option.some.inj htr).symm
        cases x <;> simp only [XOp.wipe, XOp.eqCells.injEq, reduceCtorEq] at hx
        obtain ⟨rfl, rfl, rfl, rfl⟩ := hx
        simp only [exOp] at h
        split at h
        · rename_i xs ys h1 h2
          simp only [Option.map_eq_some_iff, Prod.mk.injEq] at h
          obtain ⟨b, hb, rfl, rfl⟩ := h
          exact .inl (y_eqCells (neg := true) hs e1 e2 hf h1 h2 hb)
        · cases h
      · cases htr
    · rename_i d x' y' _ _ _ _ ht e1 e2
      split at htr
      · rename_i k hk
        have hx := (Option.some.inj htr).symm
        cases x <;> simp only [XOp.wipe, XOp.eqNil.injEq, reduceCtorEq] at hx
        obtain ⟨rfl, rfl, rfl⟩ := hx
        simp only [exOp, Option.map_eq_some_iff, Prod.mk.injEq] at h
        obtain ⟨b, hb, rfl, rfl⟩ := h
        exact .inl (y_eqNil (neg := false) hs e1 ht hk hb)
      · rename_i k hk
        have hx := (Option.some.inj htr).symm
        cases x <;> simp only [XOp.wipe, XOp.eqNil.injEq, reduceCtorEq] at hx
        obtain ⟨rfl, rfl, rfl⟩ := hx
        simp only [exOp, Option.map_eq_some_iff, Prod.mk.injEq] at h
        obtain ⟨b, hb, rfl, rfl⟩ := h
        exact .inl (y_eqNil (neg := true) hs e1 ht hk hb)
      · cases htr
    · cases htr
  | unOp op t o =>
    simp only [trOp] at htr
    obtain ⟨z, hz, hx⟩ := src_map htr
    cases x <;> simp only [XOp.wipe, XOp.un.injEq, reduceCtorEq] at hx
    obtain ⟨rfl, rfl⟩ := hx
    simp only [exOp] at h
    split at h
    · rename_i u hu
      cases hr : valUn op u with
      | none => rw [hr] at h; cases h
      | some q => rw [hr] at h; cases h; exact .inl (y_un hs hz hu hr)
    · cases h
  | convert src dst o =>
    simp only [trOp] at htr
    split at htr
    · rename_i j k z h1 h2 hz
      simp only [Option.some.injEq] at htr
      cases x <;> simp only [XOp.wipe, XOp.conv.injEq, reduceCtorEq] at htr
      obtain ⟨rfl, rfl⟩ := htr
      simp only [exOp] at h
      cases hi : intOf (s.env.ev z) with
      | none => rw [hi] at h; cases h
      | some i => rw [hi] at h; cases h; exact .inl (y_conv hs hz h1 h2 hi)
    · rename_i z h1 h2 hz
      simp only [Option.some.injEq] at htr
      cases x <;> simp only [XOp.wipe, XOp.convS.injEq, reduceCtorEq] at htr
      subst htr
      simp only [exOp] at h
      split at h
      · rename_i b hb; cases h; exact .inl (y_convS hs hz h1 h2 hb)
      · cases h
    · cases htr
  | makeFunc fn first caps =>
    cases fn <;> simp only [trOp] at htr <;> first | (cases htr; done) | skip
    rename_i f
    split at htr
    · rename_i hfirst
      have : first = #[] := by simpa using hfirst
      subst this
      simp only [Option.map_eq_some_iff] at htr
      obtain ⟨cs, hcs, hx⟩ := htr
      cases x <;> simp only [XOp.wipe, XOp.mkClo.injEq, reduceCtorEq] at hx
      obtain ⟨rfl, rfl⟩ := hx
      cases h
      exact .inl (y_mkClo hs hcs)
    · cases htr
  | makeSlice t l c =>
    simp only [trOp] at htr
    split at htr
    · rename_i e ht
      split at htr
      · rename_i zs l' c' hz e1 e2
        split at htr
        · rename_i hc
          simp only [Bool.and_eq_true, decide_eq_true_eq] at hc
          obtain ⟨⟨⟨hk, hzl⟩, h0⟩, hone⟩ := hc
          simp only [Option.some.injEq] at htr
          cases x <;> simp only [XOp.wipe, XOp.makeSlice.injEq, reduceCtorEq] at htr
          obtain ⟨rfl, rfl, rfl, rfl, rfl⟩ := htr
          simp only [exOp] at h
          split at h
          · rename_i i j hi hj
            split at h
            · rename_i hb
              cases h
              exact .inl (y_makeSlice hs ht hz hk hone h0 hzl e1 e2 hi hj hb)
            · cases h
          · cases h
        · cases htr
      · cases htr
    · cases htr
  | slice t o lo hi mx =>
    cases mx with
    | some m => simp [trOp] at htr
    | none =>
      simp only [trOp] at htr
      split at htr
      · rename_i e z lo' hi' ht hz hl hh
        split at htr
        · rename_i hk
          simp only [Option.some.injEq] at htr
          cases x <;> simp only [XOp.wipe, XOp.slice.injEq, reduceCtorEq] at htr
          obtain ⟨rfl, rfl, rfl, rfl⟩ := htr
          simp only [exOp] at h
          cases hy : exSlice (P.cellsOf e) (s.env.ev z) (lo'.map s.env.ev) (hi'.map s.env.ev) with
          | none => rw [hy] at h; cases h
          | some y => rw [hy] at h; cases h; exact .inl (y_slice hs hz hl hh ht hk hy)
        · cases htr
      · rename_i z lo' hi' ht hz hl hh
        simp only [Option.some.injEq] at htr
        cases x <;> simp only [XOp.wipe, XOp.sliceS.injEq, reduceCtorEq] at htr
        obtain ⟨rfl, rfl, rfl⟩ := htr
        simp only [exOp] at h
        split at h
        · rename_i b hb
          cases hbd : bounds b.size b.size (lo'.map s.env.ev) (hi'.map s.env.ev) with
          | none => rw [hbd] at h; cases h
          | some lh => obtain ⟨l, hh'⟩ := lh; rw [hbd] at h; cases h; exact .inl (y_sliceS hs hz hl hh ht hb hbd)
        · cases h
      · cases htr
  | fieldAddr t o f =>
    simp only [trOp] at htr
    split at htr
    · rename_i fs z ht hz
      split at htr
      · rename_i fd hf
        split at htr
        · rename_i hc
          simp only [Bool.and_eq_true, decide_eq_true_eq] at hc
          simp only [Option.some.injEq] at htr
          cases x <;> simp only [XOp.wipe, XOp.fieldA.injEq, reduceCtorEq] at htr
          obtain ⟨rfl, rfl⟩ := htr
          simp only [exOp] at h
          refine .inl ?_
          split at h
          · rename_i row o' heq; cases h; exact y_fieldA hs hz ht hf hc.1 hc.2 (by rw [heq])
          · rename_i id o' heq; cases h; exact y_fieldA hs hz ht hf hc.1 hc.2 (by rw [heq])
          · cases h
        · cases htr
      · cases htr
    · cases htr
  | field t o f =>
    simp only [trOp] at htr
    split at htr
    · rename_i fs z ht hz
      split at htr
      · rename_i fd hf
        split at htr
        · rename_i hc
          simp only [Option.some.injEq] at htr
          cases x <;> simp only [XOp.wipe, XOp.field.injEq, reduceCtorEq] at htr
          obtain ⟨rfl, rfl, rfl⟩ := htr
          simp only [exOp] at h
          split at h
          · rename_i cs heq
            cases hg : getCells (aggOf P fd.type) cs fd.offset with
            | none => rw [hg] at h; cases h
            | some y => rw [hg] at h; cases h; exact .inl (y_field hs hz ht hf hc heq hg)
          · cases h
        · cases htr
      · cases htr
    · cases htr
  | indexAddr t o i =>
    simp only [trOp] at htr
    split at htr
    · rename_i e z i' ht hz hi
      split at htr
      · rename_i hk
        simp only [Option.some.injEq] at htr
        cases x <;> simp only [XOp.wipe, XOp.idxA.injEq, reduceCtorEq] at htr
        obtain ⟨rfl, rfl, rfl⟩ := htr
        simp only [exOp] at h
        split at h
        · cases h
        · rename_i n hn
          refine .inl ?_
          split at h
          · rename_i row off len cap heq
            split at h
            · rename_i hb; cases h; exact y_idxA hs hz hi ht hk hn (by rw [heq]; simp only [hb, and_self, if_true])
            · cases h
          · rename_i id off sz len cap heq
            split at h
            · rename_i hb; cases h; exact y_idxA hs hz hi ht hk hn (by rw [heq]; simp only [hb, and_self, if_true])
            · cases h
          · cases h
      · cases htr
    · cases htr
  | index t o i =>
    simp only [trOp] at htr
    split at htr
    · rename_i z i' ht hz hi
      simp only [Option.some.injEq] at htr
      cases x <;> simp only [XOp.wipe, XOp.idxS.injEq, reduceCtorEq] at htr
      obtain ⟨rfl, rfl⟩ := htr
      simp only [exOp] at h
      split at h
      · rename_i n b hn hb
        split at h
        · rename_i h0
          split at h
          · rename_i c hc; cases h; exact .inl (y_idxS hs hz hi ht hn hb h0 hc)
          · cases h
        · cases h
      · cases h
    · cases htr
  | extract o i =>
    simp only [trOp] at htr
    obtain ⟨z, hz, hx⟩ := src_map htr
    cases x <;> simp only [XOp.wipe, XOp.extract.injEq, reduceCtorEq] at hx
    obtain ⟨rfl, rfl⟩ := hx
    simp only [exOp] at h
    split at h
    · rename_i vs hv
      cases hy : vs[i]? with
      | none => rw [hy] at h; cases h
      | some y => rw [hy] at h; cases h; exact .inl (y_extract hs hz hv hy)
    · cases h
  | call c =>
    simp only [trOp] at htr
    obtain ⟨callee, args, ats⟩ := c
    cases callee with
    | invoke => simp [trCall] at htr
    | builtin b =>
      obtain ⟨al⟩ := args
      obtain ⟨tl⟩ := ats
      simp only [trCall] at htr
      split at htr
      · rename_i o t
        split at htr
        · rename_i ht
          obtain ⟨z, hz, hx⟩ := src_map htr
          cases x <;> simp only [XOp.wipe, XOp.lenS.injEq, reduceCtorEq] at hx
          subst hx
          simp only [exOp] at h
          split at h
          · rename_i b hb; cases h; exact .inl (y_lenS hs hz ht hb)
          · cases h
        · rename_i e ht
          obtain ⟨z, hz, hx⟩ := src_map htr
          cases x <;> simp only [XOp.wipe, XOp.len.injEq, reduceCtorEq] at hx
          subst hx
          simp only [exOp, Option.map_eq_some_iff, Prod.mk.injEq] at h
          obtain ⟨n, hn, rfl, rfl⟩ := h
          exact .inl (y_len hs hz ht hn)
        · rename_i kt e ht
          obtain ⟨z, hz, hx⟩ := src_map htr
          cases x <;> simp only [XOp.wipe, XOp.lenM.injEq, reduceCtorEq] at hx
          subst hx
          exact .inl (y_lenM hs hz ht h)
        · cases htr
      · rename_i o t
        split at htr
        · rename_i e ht
          obtain ⟨z, hz, hx⟩ := src_map htr
          cases x <;> simp only [XOp.wipe, XOp.cap.injEq, reduceCtorEq] at hx
          subst hx
          simp only [exOp, Option.map_eq_some_iff, Prod.mk.injEq] at h
          obtain ⟨n, hn, rfl, rfl⟩ := h
          exact .inl (y_cap hs hz ht hn)
        · cases htr
      · rename_i o1 o2 t u
        split at htr
        · rename_i e d z1 z2 ht hu e1 e2
          split at htr
          · rename_i hc
            simp only [Bool.and_eq_true, decide_eq_true_eq] at hc
            have hx := (Option.some.inj htr).symm
            cases x <;> simp only [XOp.wipe, XOp.copy.injEq, reduceCtorEq] at hx
            obtain ⟨rfl, rfl, rfl⟩ := hx
            exact .inl (y_copy hs e1 e2 ht hc.1 h)
          · cases htr
        · cases htr
      · rename_i o1 o2 t u
        split at htr
        · rename_i e d z1 z2 ht hu e1 e2
          split at htr
          · rename_i hc
            simp only [Bool.and_eq_true, decide_eq_true_eq] at hc
            obtain ⟨⟨⟨⟨hk, h0⟩, hb0⟩, hz⟩, hd⟩ := hc
            have hx := (Option.some.inj htr).symm
            cases x <;> simp only [XOp.wipe, XOp.append.injEq, reduceCtorEq] at hx
            obtain ⟨rfl, rfl, rfl, rfl⟩ := hx
            exact .inl (y_appendX hs ht hu hd hk h0 hb0 hz e1 e2 h)
          · cases htr
        · cases htr
      · cases htr
    | value fo =>
      cases fo with
      | func f =>
        simp only [trCall, Option.map_eq_some_iff] at htr
        obtain ⟨ys, hy, hx⟩ := htr
        cases x <;> simp only [XOp.wipe, XOp.call.injEq, reduceCtorEq] at hx
        rename_i mode fn as
        obtain ⟨_, rfl, rfl⟩ := hx
        simp only [exOp] at h
        cases mode with
        | view => exact .inr (y_view hcall hs hy h)
        | own => exact .inr (y_own hcall hs hy h)
        | share => exact .inr (y_share hcall hs hy h)
      | tmp t =>
        simp only [trCall] at htr
        split at htr
        · rename_i f' as hf hy
          have hx := (Option.some.inj htr).symm
          cases x <;> simp only [XOp.wipe, XOp.callV.injEq, reduceCtorEq] at hx
          obtain ⟨rfl, rfl⟩ := hx
          simp only [exOp] at h
          split at h
          · rename_i fn caps heq; exact .inr (y_callV hcall hs hf hy heq h)
          · cases h
        · cases htr
      | const v =>
        simp only [trCall] at htr
        split at htr
        · rename_i f' as hf hy
          have hx := (Option.some.inj htr).symm
          cases x <;> simp only [XOp.wipe, XOp.callV.injEq, reduceCtorEq] at hx
          obtain ⟨rfl, rfl⟩ := hx
          simp only [exOp] at h
          split at h
          · rename_i fn caps heq; exact .inr (y_callV hcall hs hf hy heq h)
          · cases h
        · cases htr
      | global g => simp [trCall, trSrc] at htr
  | makeMap t r =>
    simp only [trOp] at htr
    split at htr
    · rename_i kt e r' ht hr
      have hx := (Option.some.inj htr).symm
      cases x <;> simp only [XOp.wipe, XOp.makeMap.injEq, reduceCtorEq] at hx
      subst hx
      simp only [exOp] at h
      cases hint : (‹Option Src› : Option Src) with
      | none =>
        rw [hint] at h hr
        cases h
        exact .inl (y_makeMap hs ht hr fun x hx => by cases hx)
      | some z =>
        rw [hint] at h hr
        simp only at h
        split at h
        · rename_i i hi
          cases h
          exact .inl (y_makeMap hs ht hr fun x hx => by cases hx; exact ⟨i, hi⟩)
        · cases h
    · cases htr
  | lookup t m k ok =>
    simp only [trOp] at htr
    split at htr
    · rename_i kt e m' k' ht hm hk
      split at htr
      · rename_i kind zs agg hkt hz
        have hx := (Option.some.inj htr).symm
        cases x <;> simp only [XOp.wipe, XOp.lookup.injEq, reduceCtorEq] at hx
        obtain ⟨rfl, rfl, rfl, rfl, rfl, rfl⟩ := hx
        exact .inl (y_lookup hs ht hm hk hkt hz h)
      · cases htr
    · cases htr
  | mapUpdate t m k v | insert t m k v =>
    simp only [trOp] at htr
    split at htr
    · rename_i kt e m' k' v' ht hm hk hv
      split at htr
      · rename_i kind hkt
        have hx := (Option.some.inj htr).symm
        cases x <;> simp only [XOp.wipe, XOp.mapSet.injEq, reduceCtorEq] at hx
        obtain ⟨rfl, rfl, rfl, rfl⟩ := hx
        first
          | exact .inl (y_mapSet hs ht hm hk hv hkt h (.inl rfl))
          | exact .inl (y_mapSet hs ht hm hk hv hkt h (.inr rfl))
      · cases htr
    · cases htr
  | _ => simp [trOp] at htr

end
end Go.EX
