import Derived.Test.YtnmhohfmonlfoaaDoorK2
import Derived.LoopN
import Derived.StillTail
import Derived.OrdersIn
import Derived.TacticsIn
import Derived.OwnWalkIn
import Derived.RangeFuncRecord
import Derived.LoopNIn
import Derived.Scope
import Derived.Test.YtnmhohfmonlfoaaDoorK1
import Derived.RangeFuncLeaves
set_option linter.unusedVariables false
set_option linter.unusedSimpArgs false
namespace Go.EX
section
variable {num : Names} {P : Program}
variable {ty : TypeId} {pos : String} {after : Array Edge} {a : Act} {C : Cx} {s : St}
theorem parts_some {place : Nat → Option (Nat × Nat)} {ps : List (Nat × Operand)} {α : Type} {f : List (Nat × Nat × Src) → α} {y : α} (h : (trParts num place ps).map f = some y) : ∃ qs, trParts num place ps = some qs ∧ f qs = y := by
  simpa [Option.map_eq_some_iff] using h
theorem src_map {x : Operand} {α : Type} {f : Src → α} {y : α} (h : (trSrc num x).map f = some y) : ∃ z, trSrc num x = some z ∧ f z = y := by
  simpa [Option.map_eq_some_iff] using h
def Does (num : Names) (P : Program) (op : Op) (ty : TypeId) (pos : String) (after : Array Edge) (a : Act) (C : Cx) (s : St) (x : AV) (s' : St) : Prop :=
  Yields num P op ty pos after a C s x s' ∨ CallsTo num P op ty pos after a C s x s' ∨ GoesRound num P op ty pos after a C s x s'
theorem exOp_does {call : Calls'} (hcall : CallOK num P call) (hs : SRep num C s a) {op : Op} {x : XOp} (htr : trOp P num op = some x.wipe) {r : AV} {s' : St} (h : exOp call s x = some (r, s')) : Does num P op ty pos after a C s r s' := by
  cases op with
  | move o =>
    simp only [trOp] at htr
    obtain ⟨z, hz, hx⟩ := src_map htr
    cases x <;> simp only [XOp.wipe, XOp.mv.injEq, reduceCtorEq] at hx
    · subst hx; cases h; exact .inl (y_mv hs hz)
    · cases h
  | assign o =>
    simp only [trOp] at htr
    obtain ⟨z, hz, hx⟩ := src_map htr
    cases x <;> simp only [XOp.wipe, XOp.mv.injEq, reduceCtorEq] at hx
    · subst hx; cases h; exact .inl (y_assign hs hz)
    · cases h
  | pick c o1 o2 =>
    simp only [trOp] at htr
    split at htr
    · rename_i c' a' b' e1 e2 e3
      simp only [Option.some.injEq] at htr
      cases x <;> simp only [XOp.wipe, XOp.pick.injEq, reduceCtorEq] at htr
      obtain ⟨rfl, rfl, rfl⟩ := htr
      simp only [exOp] at h
      split at h
      · rename_i t ht
        cases h
        exact .inl (y_pick hs e1 e2 e3 ht)
      · cases h
    · cases htr
  | alloc t =>
    simp only [trOp] at htr
    split at htr
    · rename_i zs hz
      split at htr
      · rename_i hone
        simp only [Option.some.injEq] at htr
        cases x <;> simp only [XOp.wipe, XOp.alloc.injEq, reduceCtorEq] at htr
        subst htr
        cases h
        exact .inl (y_alloc hs hz hone)
      · cases htr
    · cases htr
  | box t o =>
    simp only [trOp] at htr
    split at htr
    · obtain ⟨z, hz, hx⟩ := src_map htr
      cases x <;> simp only [XOp.wipe, XOp.box.injEq, reduceCtorEq] at hx
      obtain ⟨rfl, rfl⟩ := hx
      simp only [exOp] at h
      cases hc : (s.env.ev z).cells with
      | none => simp [hc] at h
      | some cs => rw [hc] at h; cases h; exact .inl (y_box hs hz hc)
    · cases htr
  | build t ps =>
    simp only [trOp] at htr
    split at htr
    · cases htr
    · rename_i zs hz
      split at htr
      · cases htr
      · rename_i hone
        have hone' : zs.all oneCellV = true := by simpa using hone
        split at htr
        · rename_i fs ht
          split at htr
          · rename_i hk
            obtain ⟨qs, hq, hx⟩ := parts_some htr
            cases x <;> simp only [XOp.wipe, XOp.build.injEq, reduceCtorEq] at hx
            obtain ⟨rfl, rfl⟩ := hx
            simp only [exOp] at h
            cases hf : fillAll (imZ zs) (qs.map fun (o, n, x) => (o, n, s.env.ev x)) with
            | none => rw [hf] at h; cases h
            | some cs => rw [hf] at h; cases h; exact .inl (y_build hs hz hone' hq (.inl ⟨fs, ht, hk, rfl⟩) hf)
          · cases htr
        · rename_i n e ht
          split at htr
          · rename_i hk
            obtain ⟨qs, hq, hx⟩ := parts_some htr
            cases x <;> simp only [XOp.wipe, XOp.build.injEq, reduceCtorEq] at hx
            obtain ⟨rfl, rfl⟩ := hx
            simp only [exOp] at h
            cases hf : fillAll (imZ zs) (qs.map fun (o, n, x) => (o, n, s.env.ev x)) with
            | none => rw [hf] at h; cases h
            | some cs => rw [hf] at h; cases h; exact .inl (y_build hs hz hone' hq (.inr ⟨n, e, ht, hk, rfl⟩) hf)
          · cases htr
        · cases htr
  | buildSlice t len ps =>
    simp only [trOp] at htr
    split at htr
    · rename_i e ht
      split at htr
      · rename_i zs hz
        split at htr
        · rename_i hc
          simp only [Bool.and_eq_true, decide_eq_true_eq] at hc
          obtain ⟨⟨⟨⟨hk, hone⟩, hbig⟩, h0⟩, hzl⟩ := hc
          obtain ⟨qs, hq, hx⟩ := parts_some htr
          cases x <;> simp only [XOp.wipe, XOp.buildSlice.injEq, reduceCtorEq] at hx
          obtain ⟨rfl, rfl, rfl, rfl⟩ := hx
          simp only [exOp] at h
          cases hf : fillAll (imZ (copies len zs)) (qs.map fun (o, n, x) => (o, n, s.env.ev x)) with
          | none => rw [hf] at h; cases h
          | some cs => rw [hf] at h; cases h; exact .inl (y_buildSlice hs ht hz hk hone hbig h0 hzl hq hf)
        · cases htr
      · cases htr
    · cases htr
  | load t o =>
    simp only [trOp] at htr
    split at htr
    · rename_i hk
      obtain ⟨z, hz, hx⟩ := src_map htr
      cases x <;> simp only [XOp.wipe, XOp.load.injEq, reduceCtorEq] at hx
      obtain ⟨rfl, rfl⟩ := hx
      simp only [exOp] at h
      cases hl : loadAt s.mem (aggOf P t) (s.env.ev z) with
      | none => rw [hl] at h; cases h
      | some v => rw [hl] at h; cases h; exact .inl (y_load hs hk hz hl)
    · cases htr
  | store t o1 o2 =>
    simp only [trOp] at htr
    split at htr
    · rename_i hk
      split at htr
      · rename_i p' x' e1 e2
        simp only [Option.some.injEq] at htr
        cases x <;> simp only [XOp.wipe, XOp.store.injEq, reduceCtorEq] at htr
        obtain ⟨rfl, rfl, rfl⟩ := htr
        simp only [exOp] at h
        split at h
        · rename_i cs hc
          split at h
          · rename_i hn
            cases hst : storeAt s.mem (s.env.ev p') cs with
            | none => rw [hst] at h; cases h
            | some m => rw [hst] at h; cases h; exact .inl (y_store hs hk e1 e2 hc hn hst)
          · cases h
        · cases h
      · cases htr
    · cases htr
  | nilCheck o =>
    simp only [trOp] at htr
    obtain ⟨z, hz, hx⟩ := src_map htr
    cases x <;> simp only [XOp.wipe, XOp.nilCheck.injEq, reduceCtorEq] at hx
    subst hx
    simp only [exOp] at h
    split at h
    · rename_i hn; cases h; exact .inl (y_nilCheck hs hz hn)
    · cases h
  | binOp op t o1 o2 yt =>
    simp only [trOp] at htr
    have bin : ∀ (x' y' : Src), trSrc num o1 = some x' → trSrc num o2 = some y' → x.wipe = .bin op x' y' → Does num P (.binOp op t o1 o2 yt) ty pos after a C s r s' := by
      intro x' y' e1 e2 hx
      cases x <;> simp only [XOp.wipe, XOp.bin.injEq, reduceCtorEq] at hx
      obtain ⟨rfl, rfl, rfl⟩ := hx
      simp only [exOp] at h
      split at h
      · rename_i u v hu hv
        simp only [Option.map_eq_some_iff, Prod.mk.injEq] at h
        obtain ⟨q, hq, rfl, rfl⟩ := h
        exact .inl (y_bin hs e1 e2 hu hv hq)
      · cases h
    split at htr
    · rename_i e1 e2; exact bin _ _ e1 e2 (Option.some.inj htr).symm
    · rename_i e1 e2; exact bin _ _ e1 e2 (Option.some.inj htr).symm
    · rename_i x' y' ht e1 e2
      have hx := (Option.some.inj htr).symm
      cases x <;> simp only [XOp.wipe, XOp.binB.injEq, reduceCtorEq] at hx
      obtain ⟨rfl, rfl, rfl⟩ := hx
      simp only [exOp] at h
      split at h
      · rename_i u v hu hv
        simp only [Option.map_eq_some_iff, Prod.mk.injEq] at h
        obtain ⟨q, hq, rfl, rfl⟩ := h
        exact .inl (y_binB hs e1 e2 ht hu hv hq)
      · cases h
    · rename_i fs x' y' ht e1 e2
      split at htr
      · rename_i ks hf
        have hx := (Option.some.inj htr).symm
        cases x <;> simp only [XOp.wipe, XOp.eqCells.injEq, reduceCtorEq] at hx
        obtain ⟨rfl, rfl, rfl, rfl⟩ := hx
        simp only [exOp] at h
        split at h
        · rename_i xs ys h1 h2
          simp only [Option.map_eq_some_iff, Prod.mk.injEq] at h
          obtain ⟨b, hb, rfl, rfl⟩ := h
          exact .inl (y_eqCells (neg := false) hs e1 e2 hf h1 h2 hb)
        · cases h
      · rename_i ks hf
        have hx := (Option.some.inj htr).symm
        cases x <;> simp only [XOp.wipe, XOp.eqCells.injEq, reduceCtorEq] at hx
        obtain ⟨rfl, rfl, rfl, rfl⟩ := hx
        simp only [exOp] at h
        split at h
        · rename_i xs ys h1 h2
          simp only [Option.map_eq_some_iff, Prod.mk.injEq] at h
          obtain ⟨b, hb, rfl, rfl⟩ := h
          exact .inl (y_eqCells (neg := true) hs e1 e2 hf h1 h2 hb)
        · cases h
      · cases htr
    · rename_i d x' y' _ _ _ _ ht e1 e2
      split at htr
      · rename_i k hk
        have hx := (Option.some.inj htr).symm
        cases x <;> simp only [XOp.wipe, XOp.eqNil.injEq, reduceCtorEq] at hx
        obtain ⟨rfl, rfl, rfl⟩ := hx
        simp only [exOp, Option.map_eq_some_iff, Prod.mk.injEq] at h
        obtain ⟨b, hb, rfl, rfl⟩ := h
        exact .inl (y_eqNil (neg := false) hs e1 ht hk hb)
      · rename_i k hk
        have hx := (Option.some.inj htr).symm
        cases x <;> simp only [XOp.wipe, XOp.eqNil.injEq, reduceCtorEq] at hx
        obtain ⟨rfl, rfl, rfl⟩ := hx
        simp only [exOp, Option.map_eq_some_iff, Prod.mk.injEq] at h
        obtain ⟨b, hb, rfl, rfl⟩ := h
        exact .inl (y_eqNil (neg := true) hs e1 ht hk hb)
      · cases htr
    · cases htr
  | unOp op t o =>
    simp only [trOp] at htr
    obtain ⟨z, hz, hx⟩ := src_map htr
    cases x <;> simp only [XOp.wipe, XOp.un.injEq, reduceCtorEq] at hx
    obtain ⟨rfl, rfl⟩ := hx
    simp only [exOp] at h
    split at h
    · rename_i u hu
      cases hr : valUn op u with
      | none => rw [hr] at h; cases h
      | some q => rw [hr] at h; cases h; exact .inl (y_un hs hz hu hr)
    · cases h
  | convert src dst o =>
    simp only [trOp] at htr
    split at htr
    · rename_i j k z h1 h2 hz
      simp only [Option.some.injEq] at htr
      cases x <;> simp only [XOp.wipe, XOp.conv.injEq, reduceCtorEq] at htr
      obtain ⟨rfl, rfl⟩ := htr
      simp only [exOp] at h
      cases hi : intOf (s.env.ev z) with
      | none => rw [hi] at h; cases h
      | some i => rw [hi] at h; cases h; exact .inl (y_conv hs hz h1 h2 hi)
    · rename_i z h1 h2 hz
      simp only [Option.some.injEq] at htr
      cases x <;> simp only [XOp.wipe, XOp.convS.injEq, reduceCtorEq] at htr
      subst htr
      simp only [exOp] at h
      split at h
      · rename_i b hb; cases h; exact .inl (y_convS hs hz h1 h2 hb)
      · cases h
    · rename_i e z h1 h2 hz
      split at htr
      · rename_i he
        simp only [Option.some.injEq] at htr
        cases x <;> simp only [XOp.wipe, XOp.strOf.injEq, reduceCtorEq] at htr
        subst htr
        simp only [exOp, Option.map_eq_some_iff, Prod.mk.injEq] at h
        obtain ⟨b, hb, rfl, rfl⟩ := h
        exact .inl (y_strOf hs hz h1 h2 he hb)
      · cases htr
    · rename_i e z h1 h2 hz
      split at htr
      · rename_i he
        simp only [Option.some.injEq] at htr
        cases x <;> simp only [XOp.wipe, XOp.bytesOf.injEq, reduceCtorEq] at htr
        subst htr
        simp only [exOp] at h
        split at h
        · rename_i b hb; cases h; exact .inl (y_bytesOf hs hz h1 h2 he hb)
        · cases h
      · cases htr
    · cases htr
  | makeFunc fn first caps =>
    cases fn <;> simp only [trOp] at htr <;> first | (cases htr; done) | skip
    rename_i f
    split at htr
    · rename_i hfirst
      have : first = #[] := by simpa using hfirst
      subst this
      simp only [Option.map_eq_some_iff] at htr
      obtain ⟨cs, hcs, hx⟩ := htr
      cases x <;> simp only [XOp.wipe, XOp.mkClo.injEq, reduceCtorEq] at hx
      obtain ⟨rfl, rfl⟩ := hx
      cases h
      exact .inl (y_mkClo hs hcs)
    · cases htr
  | makeSlice t l c =>
    simp only [trOp] at htr
    split at htr
    · rename_i e ht
      split at htr
      · rename_i zs l' c' hz e1 e2
        split at htr
        · rename_i hc
          simp only [Bool.and_eq_true, decide_eq_true_eq] at hc
          obtain ⟨⟨⟨hk, hzl⟩, h0⟩, hone⟩ := hc
          simp only [Option.some.injEq] at htr
          cases x <;> simp only [XOp.wipe, XOp.makeSlice.injEq, reduceCtorEq] at htr
          obtain ⟨rfl, rfl, rfl, rfl, rfl⟩ := htr
          simp only [exOp] at h
          split at h
          · rename_i i j hi hj
            split at h
            · rename_i hb
              cases h
              exact .inl (y_makeSlice hs ht hz hk hone h0 hzl e1 e2 hi hj hb)
            · cases h
          · cases h
        · cases htr
      · cases htr
    · cases htr
  | slice t o lo hi mx =>
    cases mx with
    | some m =>
      cases lo with
      | some _ => simp [trOp] at htr
      | none => cases hi with
        | none => simp [trOp] at htr
        | some hh =>
          simp only [trOp] at htr
          split at htr
          · rename_i e z h' m' ht hz h1 h2
            split at htr
            · rename_i hk
              simp only [Option.some.injEq] at htr
              cases x <;> simp only [XOp.wipe, XOp.slice3.injEq, reduceCtorEq] at htr
              obtain ⟨rfl, rfl, rfl, rfl⟩ := htr
              simp only [exOp] at h
              cases hy : exSlice3 (P.cellsOf e) (s.env.ev z) (s.env.ev h') (s.env.ev m') with
              | none => rw [hy] at h; cases h
              | some y => rw [hy] at h; cases h; exact .inl (y_slice3 hs hz h1 h2 ht hk hy)
            · cases htr
          · cases htr
    | none =>
      simp only [trOp] at htr
      split at htr
      · rename_i e z lo' hi' ht hz hl hh
        split at htr
        · rename_i hk
          simp only [Option.some.injEq] at htr
          cases x <;> simp only [XOp.wipe, XOp.slice.injEq, reduceCtorEq] at htr
          obtain ⟨rfl, rfl, rfl, rfl⟩ := htr
          simp only [exOp] at h
          cases hy : exSlice (P.cellsOf e) (s.env.ev z) (lo'.map s.env.ev) (hi'.map s.env.ev) with
          | none => rw [hy] at h; cases h
          | some y => rw [hy] at h; cases h; exact .inl (y_slice hs hz hl hh ht hk hy)
        · cases htr
      · rename_i z lo' hi' ht hz hl hh
        simp only [Option.some.injEq] at htr
        cases x <;> simp only [XOp.wipe, XOp.sliceS.injEq, reduceCtorEq] at htr
        obtain ⟨rfl, rfl, rfl⟩ := htr
        simp only [exOp] at h
        split at h
        · rename_i b hb
          cases hbd : bounds b.size b.size (lo'.map s.env.ev) (hi'.map s.env.ev) with
          | none => rw [hbd] at h; cases h
          | some lh => obtain ⟨l, hh'⟩ := lh; rw [hbd] at h; cases h; exact .inl (y_sliceS hs hz hl hh ht hb hbd)
        · cases h
      · cases htr
  | fieldAddr t o f =>
    simp only [trOp] at htr
    split at htr
    · rename_i fs z ht hz
      split at htr
      · rename_i fd hf
        split at htr
        · rename_i hc
          simp only [Bool.and_eq_true, decide_eq_true_eq] at hc
          simp only [Option.some.injEq] at htr
          cases x <;> simp only [XOp.wipe, XOp.fieldA.injEq, reduceCtorEq] at htr
          obtain ⟨rfl, rfl⟩ := htr
          simp only [exOp] at h
          refine .inl ?_
          split at h
          · rename_i row o' heq; cases h; exact y_fieldA hs hz ht hf hc.1 hc.2 (by rw [heq])
          · rename_i id o' heq; cases h; exact y_fieldA hs hz ht hf hc.1 hc.2 (by rw [heq])
          · cases h
        · cases htr
      · cases htr
    · cases htr
  | field t o f =>
    simp only [trOp] at htr
    split at htr
    · rename_i fs z ht hz
      split at htr
      · rename_i fd hf
        split at htr
        · rename_i hc
          simp only [Option.some.injEq] at htr
          cases x <;> simp only [XOp.wipe, XOp.field.injEq, reduceCtorEq] at htr
          obtain ⟨rfl, rfl, rfl⟩ := htr
          simp only [exOp] at h
          split at h
          · rename_i cs heq
            cases hg : getCells (aggOf P fd.type) cs fd.offset with
            | none => rw [hg] at h; cases h
            | some y => rw [hg] at h; cases h; exact .inl (y_field hs hz ht hf hc heq hg)
          · cases h
        · cases htr
      · cases htr
    · cases htr
  | indexAddr t o i =>
    simp only [trOp] at htr
    split at htr
    · rename_i e z i' ht hz hi
      split at htr
      · rename_i hk
        simp only [Option.some.injEq] at htr
        cases x <;> simp only [XOp.wipe, XOp.idxA.injEq, reduceCtorEq] at htr
        obtain ⟨rfl, rfl, rfl⟩ := htr
        simp only [exOp] at h
        split at h
        · cases h
        · rename_i n hn
          refine .inl ?_
          split at h
          · rename_i row off len cap heq
            split at h
            · rename_i hb; cases h; exact y_idxA hs hz hi ht hk hn (by rw [heq]; simp only [hb, and_self, if_true])
            · cases h
          · rename_i id off sz len cap heq
            split at h
            · rename_i hb; cases h; exact y_idxA hs hz hi ht hk hn (by rw [heq]; simp only [hb, and_self, if_true])
            · cases h
          · cases h
      · cases htr
    · rename_i len e z i' ht hz hi
      split at htr
      · rename_i hk
        simp only [Option.some.injEq] at htr
        cases x <;> simp only [XOp.wipe, XOp.idxP.injEq, reduceCtorEq] at htr
        obtain ⟨rfl, rfl, rfl, rfl⟩ := htr
        simp only [exOp] at h
        split at h
        · cases h
        · rename_i n hn
          refine .inl ?_
          split at h
          · rename_i hb
            split at h
            · rename_i row o heq; cases h; exact y_idxP hs hz hi ht hk hn hb (by rw [heq])
            · rename_i id o heq; cases h; exact y_idxP hs hz hi ht hk hn hb (by rw [heq])
            · cases h
          · cases h
      · cases htr
    · cases htr
  | index t o i =>
    simp only [trOp] at htr
    split at htr
    · rename_i z i' ht hz hi
      simp only [Option.some.injEq] at htr
      cases x <;> simp only [XOp.wipe, XOp.idxS.injEq, reduceCtorEq] at htr
      obtain ⟨rfl, rfl⟩ := htr
      simp only [exOp] at h
      split at h
      · rename_i n b hn hb
        split at h
        · rename_i h0
          split at h
          · rename_i c hc; cases h; exact .inl (y_idxS hs hz hi ht hn hb h0 hc)
          · cases h
        · cases h
      · cases h
    · rename_i len e z i' ht hz hi
      split at htr
      · rename_i hk
        simp only [Option.some.injEq] at htr
        cases x <;> simp only [XOp.wipe, XOp.idxV.injEq, reduceCtorEq] at htr
        obtain ⟨rfl, rfl, rfl, rfl, rfl⟩ := htr
        simp only [exOp] at h
        split at h
        · cases h
        · rename_i n hn
          split at h
          · rename_i hb
            split at h
            · rename_i cs heq
              simp only [Option.map_eq_some_iff, Prod.mk.injEq] at h
              obtain ⟨v, hv, rfl, rfl⟩ := h
              exact .inl (y_idxV hs hz hi ht hk hn hb heq hv)
            · cases h
          · cases h
      · cases htr
    · cases htr
  | extract o i =>
    simp only [trOp] at htr
    obtain ⟨z, hz, hx⟩ := src_map htr
    cases x <;> simp only [XOp.wipe, XOp.extract.injEq, reduceCtorEq] at hx
    obtain ⟨rfl, rfl⟩ := hx
    simp only [exOp] at h
    split at h
    · rename_i vs hv
      cases hy : vs[i]? with
      | none => rw [hy] at h; cases h
      | some y => rw [hy] at h; cases h; exact .inl (y_extract hs hz hv hy)
    · cases h
  | call c =>
    simp only [trOp] at htr
    obtain ⟨callee, args, ats⟩ := c
    cases callee with
    | invoke => simp [trCall] at htr
    | builtin b =>
      obtain ⟨al⟩ := args
      obtain ⟨tl⟩ := ats
      simp only [trCall] at htr
      split at htr
      · rename_i o t
        split at htr
        · rename_i ht
          obtain ⟨z, hz, hx⟩ := src_map htr
          cases x <;> simp only [XOp.wipe, XOp.lenS.injEq, reduceCtorEq] at hx
          subst hx
          simp only [exOp] at h
          split at h
          · rename_i b hb; cases h; exact .inl (y_lenS hs hz ht hb)
          · cases h
        · rename_i e ht
          obtain ⟨z, hz, hx⟩ := src_map htr
          cases x <;> simp only [XOp.wipe, XOp.len.injEq, reduceCtorEq] at hx
          subst hx
          simp only [exOp, Option.map_eq_some_iff, Prod.mk.injEq] at h
          obtain ⟨n, hn, rfl, rfl⟩ := h
          exact .inl (y_len hs hz ht hn)
        · rename_i kt e ht
          obtain ⟨z, hz, hx⟩ := src_map htr
          cases x <;> simp only [XOp.wipe, XOp.lenM.injEq, reduceCtorEq] at hx
          subst hx
          exact .inl (y_lenM hs hz ht h)
        · cases htr
      · rename_i o1 o2 ts
        split at htr
        · rename_i z1 z2 e1 e2
          have hx := (Option.some.inj htr).symm
          cases x <;> simp only [XOp.wipe, XOp.minmax.injEq, reduceCtorEq] at hx
          obtain ⟨rfl, rfl, rfl⟩ := hx
          simp only [exOp] at h
          split at h
          · rename_i k m j n h1 h2; cases h; exact .inl (y_minmax (mn := true) hs e1 e2 h1 h2)
          · cases h
        · cases htr
      · rename_i o1 o2 ts
        split at htr
        · rename_i z1 z2 e1 e2
          have hx := (Option.some.inj htr).symm
          cases x <;> simp only [XOp.wipe, XOp.minmax.injEq, reduceCtorEq] at hx
          obtain ⟨rfl, rfl, rfl⟩ := hx
          simp only [exOp] at h
          split at h
          · rename_i k m j n h1 h2; cases h; exact .inl (y_minmax (mn := false) hs e1 e2 h1 h2)
          · cases h
        · cases htr
      · rename_i o t
        split at htr
        · rename_i e ht
          obtain ⟨z, hz, hx⟩ := src_map htr
          cases x <;> simp only [XOp.wipe, XOp.cap.injEq, reduceCtorEq] at hx
          subst hx
          simp only [exOp, Option.map_eq_some_iff, Prod.mk.injEq] at h
          obtain ⟨n, hn, rfl, rfl⟩ := h
          exact .inl (y_cap hs hz ht hn)
        · cases htr
      · rename_i o1 o2 t u
        split at htr
        · rename_i e d z1 z2 ht hu e1 e2
          split at htr
          · rename_i hc
            simp only [Bool.and_eq_true, decide_eq_true_eq] at hc
            have hx := (Option.some.inj htr).symm
            cases x <;> simp only [XOp.wipe, XOp.copy.injEq, reduceCtorEq] at hx
            obtain ⟨rfl, rfl, rfl⟩ := hx
            exact .inl (y_copy hs e1 e2 ht hc.1 h)
          · cases htr
        · cases htr
      · rename_i o t
        split at htr
        · rename_i e z1 ht e1
          split at htr
          · rename_i zs hz
            split at htr
            · rename_i hc
              simp only [Bool.and_eq_true, decide_eq_true_eq] at hc
              obtain ⟨⟨⟨hk, hzl⟩, h0⟩, hone⟩ := hc
              have hx := (Option.some.inj htr).symm
              cases x <;> simp only [XOp.wipe, XOp.clear.injEq, reduceCtorEq] at hx
              obtain ⟨rfl, rfl, rfl⟩ := hx
              exact .inl (y_clear hs e1 ht hz hk hone h0 hzl h)
            · cases htr
          · cases htr
        · cases htr
      · rename_i o1 o2 t u
        split at htr
        · rename_i e d z1 z2 ht hu e1 e2
          split at htr
          · rename_i hc
            simp only [Bool.and_eq_true, decide_eq_true_eq] at hc
            obtain ⟨⟨⟨⟨hk, h0⟩, hb0⟩, hz⟩, hd⟩ := hc
            have hx := (Option.some.inj htr).symm
            cases x <;> simp only [XOp.wipe, XOp.append.injEq, reduceCtorEq] at hx
            · obtain ⟨rfl, rfl, rfl, rfl⟩ := hx
              exact .inl (y_appendX hs ht hu hd hk h0 hb0 hz e1 e2 h)
            · obtain ⟨rfl, rfl, rfl, rfl⟩ := hx
              exact .inl (y_appendK hs ht hu hd hk h0 hb0 hz e1 e2 h)
          · cases htr
        · cases htr
      · cases htr
    | value fo =>
      cases fo with
      | func f =>
        simp only [trCall, Option.map_eq_some_iff] at htr
        obtain ⟨ys, hy, hx⟩ := htr
        cases x <;> simp only [XOp.wipe, XOp.call.injEq, reduceCtorEq] at hx
        rename_i mode fn as
        obtain ⟨_, rfl, rfl⟩ := hx
        simp only [exOp] at h
        cases mode with
        | view => exact .inr (.inl (y_view hcall hs hy h))
        | own => exact .inr (.inl (y_own hcall hs hy h))
        | share => exact .inr (.inl (y_share hcall hs hy h))
        | peek =>
          obtain ⟨rfl, _, h⟩ := peek_share h
          exact .inr (.inl (y_share hcall hs hy h))
        | look => exact .inr (.inl (y_share hcall hs hy (look_share h)))
      | tmp t =>
        simp only [trCall] at htr
        split at htr
        · rename_i f' as hf hy
          have hx := (Option.some.inj htr).symm
          cases x <;> simp only [XOp.wipe, XOp.callV.injEq, reduceCtorEq] at hx
          obtain ⟨rfl, rfl⟩ := hx
          simp only [exOp] at h
          split at h
          · rename_i fn caps heq; exact .inr (.inl (y_callV hcall hs hf hy heq h))
          · rename_i id heq; exact .inr (.inr (y_yield hcall hs hf hy heq h))
          · cases h
        · cases htr
      | const v =>
        simp only [trCall] at htr
        split at htr
        · rename_i f' as hf hy
          have hx := (Option.some.inj htr).symm
          cases x <;> simp only [XOp.wipe, XOp.callV.injEq, reduceCtorEq] at hx
          obtain ⟨rfl, rfl⟩ := hx
          simp only [exOp] at h
          split at h
          · rename_i fn caps heq; exact .inr (.inl (y_callV hcall hs hf hy heq h))
          · rename_i id heq; exact .inr (.inr (y_yield hcall hs hf hy heq h))
          · cases h
        · cases htr
      | global g => simp [trCall, trSrc] at htr
  | makeMap t r =>
    simp only [trOp] at htr
    split at htr
    · rename_i kt e r' ht hr
      have hx := (Option.some.inj htr).symm
      cases x <;> simp only [XOp.wipe, XOp.makeMap.injEq, reduceCtorEq] at hx
      subst hx
      simp only [exOp] at h
      cases hint : (‹Option Src› : Option Src) with
      | none =>
        rw [hint] at h hr
        cases h
        exact .inl (y_makeMap hs ht hr fun x hx => by cases hx)
      | some z =>
        rw [hint] at h hr
        simp only at h
        split at h
        · rename_i i hi
          cases h
          exact .inl (y_makeMap hs ht hr fun x hx => by cases hx; exact ⟨i, hi⟩)
        · cases h
    · cases htr
  | lookup t m k ok =>
    simp only [trOp] at htr
    split at htr
    · rename_i kt e m' k' ht hm hk
      split at htr
      · rename_i kind zs agg hkt hz
        have hx := (Option.some.inj htr).symm
        cases x <;> simp only [XOp.wipe, XOp.lookup.injEq, reduceCtorEq] at hx
        obtain ⟨rfl, rfl, rfl, rfl, rfl, rfl⟩ := hx
        exact .inl (y_lookup hs ht hm hk hkt hz h)
      · cases htr
    · cases htr
  | mapUpdate t m k v | insert t m k v =>
    simp only [trOp] at htr
    split at htr
    · rename_i kt e m' k' v' ht hm hk hv
      split at htr
      · rename_i kind hkt
        have hx := (Option.some.inj htr).symm
        cases x <;> simp only [XOp.wipe, XOp.mapSet.injEq, reduceCtorEq] at hx
        obtain ⟨rfl, rfl, rfl, rfl⟩ := hx
        first
          | exact .inl (y_mapSet hs ht hm hk hv hkt h (.inl rfl))
          | exact .inl (y_mapSet hs ht hm hk hv hkt h (.inr rfl))
      · cases htr
    · cases htr
  | _ => simp [trOp] at htr
end
end Go.EX


set_option linter.unusedVariables false
set_option linter.unusedSimpArgs false
namespace Go.EX
section
variable {num : Names} {P : Program}
abbrev fz (ro : Option Nat) : Fence := { Fence.wide with round := ro }
def Marked (lo : Nat) (C : Cx) (ds : List Deferred) : Prop :=
  ∃ rs : List Nat, ds = rs.map (fun r => { target := .collected r, args := #[] }) ∧ rs.Nodup ∧ ∀ r ∈ rs, lo ≤ r ∧ C.w.heap[r]? = some (.deferred (some [])) ∧ ¬ C.I r
theorem own_obj {C : Cx} {m : Mem} (hm : MRep num C m) {b : Nat} (h : Own C m b) : (∃ arr e fz, C.w.heap[b]? = some (.cells arr e fz)) ∨ (∃ es k, C.w.heap[b]? = some (.map es k)) ∨ ∃ R, C.w.heap[b]? = some (.loop R) := by
  obtain ⟨id, o, ho, hlv, rfl⟩ := h
  have h1 := hm.obj id o ho
  cases o with
  | flat => obtain ⟨arr, e, h2, _⟩ := h1; exact .inl ⟨arr, e, _, h2⟩
  | rich => obtain ⟨arr, e, h2, _⟩ := h1; exact .inl ⟨arr, e, _, h2⟩
  | fix => obtain ⟨arr, e, h2, _⟩ := h1; exact .inl ⟨arr, e, _, h2⟩
  | map => obtain ⟨es, k, h2, _⟩ := h1; exact .inr (.inl ⟨es, k, h2⟩)
  | loop => obtain ⟨R, N, h2, _⟩ := h1; exact .inr (.inr ⟨R, h2⟩)
  | dead => cases hlv
theorem Marked.step {lo k : Nat} {C D : Cx} {m m' : Mem} {ds : List Deferred} (h : Marked lo C ds) (hm : MRep num C m) (hst : Step num k C m D m') : Marked lo D ds := by
  obtain ⟨rs, h1, h2, h3⟩ := h
  refine ⟨rs, h1, h2, fun r hr => ?_⟩
  obtain ⟨h4, h5, h6⟩ := h3 r hr
  have hlt := (Array.getElem?_eq_some_iff.1 h5).1
  have hno : ¬ Own C m r := fun ho => by
    rcases own_obj hm ho with ⟨_, _, _, h⟩ | ⟨_, _, h⟩ | ⟨_, h⟩ <;> rw [h5] at h <;> cases h
  refine ⟨h4, by rw [hst.keep r hlt hno]; exact h5, fun hI => ?_⟩
  rcases hst.imm' r hI with h | h | h
  · exact h6 h
  · omega
  · exact hno h
structure Later (num : Names) (k : Nat) (C : Cx) (m : Mem) (a : Act) (D : Cx) (s' : St) (a' : Act) : Prop where
  rep : SRep num D s' a'
  step : Step num k C m D s'.mem
  k : s'.k = k
  size : a'.tmps.size = a.tmps.size
  marks : ∀ lo, lo ≤ C.w.heap.size → Marked lo C a.defers → Marked lo D a'.defers
theorem Later.trans {k : Nat} {C D E : Cx} {m : Mem} {s s' : St} {a a' a'' : Act} (h : Later num k C m a D s a') (g : Later num k D s.mem a' E s' a'') : Later num k C m a E s' a'' :=
  ⟨g.rep, h.step.trans g.step, g.k, g.size.trans h.size, fun lo hle hl => g.marks lo (Nat.le_trans hle h.step.size) (h.marks lo hle hl)⟩
theorem Later.refl {C : Cx} {s : St} {a : Act} (hs : SRep num C s a) : Later num s.k C s.mem a C s a := ⟨hs, .refl hs.mem hs.k, rfl, rfl, fun _ _ h => h⟩
theorem put_size (a : Act) (d : Option Tmp) (v : Value) : (a.put d v).tmps.size = a.tmps.size := by cases d <;> simp [Act.put]
theorem put_defers (a : Act) (d : Option Tmp) (v : Value) : (a.put d v).defers = a.defers := by cases d <;> rfl
def St.bind (s : St) (d : Option Nat) (v : AV) : St := match d with
  | some d => { s with env := (d, v) :: s.env }
  | none => s
theorem bind_mem (s : St) (d : Option Nat) (v : AV) : (s.bind d v).mem = s.mem := by cases d <;> rfl
theorem bind_k (s : St) (d : Option Nat) (v : AV) : (s.bind d v).k = s.k := by cases d <;> rfl
theorem bind_later {k N : Nat} {C D : Cx} {m : Mem} {s : St} {a : Act} {d : Option Nat} {x : AV} {v : Value} (hm : MRep num C m) (hN : N ≤ a.tmps.size) (hd : dstOk N d = true) (hst : Step num k C m D s.mem) (he : ERep num D s.env a.tmps) (hx : ARep num D x v) (hk : s.k = k) :
    Later num k C m a D (s.bind d x) (a.put d v) := by
  refine ⟨⟨by rw [bind_mem]; exact hst.rep, ?_, by rw [bind_k, bind_mem, hk]; exact hst.len⟩, by rw [bind_mem]; exact hst, by rw [bind_k, hk], put_size .., fun lo _ h => by rw [put_defers]; exact h.step hm hst⟩
  cases d with
  | none => exact he
  | some d =>
    have : d < a.tmps.size := Nat.lt_of_lt_of_le (by simpa [dstOk] using hd) hN
    exact he.put this hx
theorem does_wp {ro : Option Nat} {op : Op} {ty : TypeId} {pos : String} {after : Array Edge} {a : Act} {C : Cx} {s s' : St} {x : AV} (hm : MRep num C s.mem) (h : Does num P op ty pos after a C s x s') {N : Nat} (hN : N ≤ a.tmps.size) {d : Option Tmp} (hd : dstOk N d = true) (g : Option (Nat × Bool))
    {K : Act → World → Prop} {Q : Exit → Act → World → Prop} (hK : ∀ D a', Later num s.k C s.mem a D (s'.bind d x) a' → K a' D.w) : Oper.wpIn (fz ro) 0 P ⟨d, op, ty, pos, after, g⟩ a C.w K Q := by
  have hnd : ∀ c, op ≠ .defer c := by
    rintro c rfl
    have hbad : ∀ (r : Result Next), (execOp a.eval ⟨d, .defer c, ty, pos, after, g⟩).run P C.w = r → (∀ dd w, r ≠ .ok (.defer dd) w) → (∀ x w, r ≠ .halt x w) → False := by
      intro r hr h1 h2
      simp only [execOp, Sem.run_bind] at hr
      cases hq : (resolve a.eval c ty).run P C.w with
      | ok v w => rw [hq] at hr; simp only [Result.andThen, Sem.run_pure] at hr; exact h1 _ _ hr.symm
      | halt x w => rw [hq] at hr; simp only [Result.andThen] at hr; exact h2 _ _ hr.symm
    rcases h with ⟨v, D, hrun, _⟩ | ⟨f, vals, hrun, _⟩ | ⟨l, fn, tmps, as, bd, hrun, _⟩
    · rcases hrun d g with h | ⟨h, _⟩ <;> exact hbad _ h (fun _ _ => by simp) (fun _ _ => by simp)
    · exact hbad _ (hrun d g) (fun _ _ => by simp) (fun _ _ => by simp)
    · exact hbad _ (hrun d g) (fun _ _ => by simp) (fun _ _ => by simp)
  unfold Oper.wpIn
  refine ⟨fun _ _ => trivial, ?_⟩
  rw [Oper.semAt_eq _ _ _ hnd]
  rcases h with ⟨v, D, hrun, hst, he, hx, hk⟩ | ⟨f, vals, hrun, hc⟩ | ⟨l, fn, tmps, as, bd, hrun, hc⟩
  · rcases hrun d g with h | ⟨h, rfl⟩ <;> rw [h]
    · rw [Oper.uponIn_value]; exact hK D _ (bind_later hm hN hd hst he hx hk)
    · rw [Oper.uponIn_skip]; exact hK D _ (bind_later hm hN hd hst he hx hk)
  · rw [hrun d g, Oper.uponIn_enter]
    refine ⟨fun h => (by cases h), ?_⟩
    refine CallsIn.mono (R := fun e w' => ∃ v D, e = .returned v ∧ D.w = w' ∧ Step num s.k C s.mem D s'.mem ∧ ERep num D s'.env a.tmps ∧ ARep num D x v ∧ s'.k = s.k) (callsIn_wide.2 hc) fun e w' ⟨v, D, he', hw, hst, he, hx, hk⟩ => ?_
    subst he' hw
    exact hK D _ (bind_later hm hN hd hst he hx hk)
  · rw [hrun d g, Oper.uponIn_round]
    refine ⟨fun h => (by cases h), ?_⟩
    have hc' : RoundIn (fz ro) (0 - 1) P l fn tmps as bd C.w (fun e w' => ∃ v D, e = .returned v ∧ D.w = w' ∧ Step num s.k C s.mem D s'.mem ∧ ERep num D s'.env a.tmps ∧ ARep num D x v ∧ s'.k = s.k) := hc
    refine hc'.mono fun e w' ⟨v, D, he', hw, hst, he, hx, hk⟩ => ?_
    subst he' hw
    exact hK D _ (bind_later hm hN hd hst he hx hk)
theorem trOper_spec {N : Nat} {ops : Array Oper} {o : Oper} {x : XO} (h : trOper P num N ops o = some x) : trOp P num o.op = some x.op ∧ trGuard ops o.guard = some x.guard ∧ x.dst = o.dst ∧ dstOk N o.dst = true ∧ ∀ (t : Nat) (b : Bool), x.guard = some (t, b) → t < N := by
  unfold trOper at h
  split at h
  · rename_i y g h1 h2
    split at h
    · cases h; rename_i hd; simp only [Bool.and_eq_true] at hd; exact ⟨h1, h2, rfl, hd.1, fun t b hg => by simp only at hg; subst hg; simpa [dstOk] using hd.2⟩
    · cases h
  · cases h
theorem exOne_bind {call : Calls'} {s : St} {o : XO} {s' : St} (h : exOne call s o = some s') :
    (∃ v s1, exOp call s o.op = some (v, s1) ∧ s' = s1.bind o.dst v ∧ (o.guard = none ∨ ∃ t b, o.guard = some (t, b) ∧ s.env.get t = .imm (.val (.bool b)))) ∨
    (s' = s.bind o.dst (.tup []) ∧ ∃ t b, o.guard = some (t, b) ∧ ((∃ c, s.env.get t = .imm (.val (.bool c)) ∧ c ≠ b) ∨ s.env.get t = .tup [])) := by
  unfold exOne at h
  dsimp only at h
  have go : ∀ {s'}, (exOp call s o.op).map (fun (v, s') => match o.dst with | some d => { s' with env := (d, v) :: s'.env } | none => s') = some s' → ∃ v s1, exOp call s o.op = some (v, s1) ∧ s' = s1.bind o.dst v := by
    intro s' h
    cases hx : exOp call s o.op with
    | none => rw [hx] at h; cases h
    | some p =>
      obtain ⟨v, s1⟩ := p
      rw [hx] at h
      refine ⟨v, s1, rfl, ?_⟩
      simp only [Option.map_some, Option.some.injEq] at h
      rw [← h]
      cases o.dst <;> rfl
  split at h
  · rename_i hg
    obtain ⟨v, s1, h1, h2⟩ := go h
    exact .inl ⟨v, s1, h1, h2, .inl hg⟩
  · rename_i t b hg
    split at h
    · rename_i c hc
      split at h
      · rename_i hcb
        obtain ⟨v, s1, h1, h2⟩ := go h
        exact .inl ⟨v, s1, h1, h2, .inr ⟨t, b, hg, by rw [hc, hcb]⟩⟩
      · rename_i hcb
        refine .inr ⟨?_, t, b, hg, .inl ⟨c, hc, hcb⟩⟩
        simp only [Option.some.injEq] at h
        rw [← h]
        cases o.dst <;> rfl
    · rename_i hc
      refine .inr ⟨?_, t, b, hg, .inr hc⟩
      simp only [Option.some.injEq] at h
      rw [← h]
      cases o.dst <;> rfl
    · cases h
theorem wanted_of {ops : Array Oper} {o : Oper} {a : Act} {C : Cx} {s : St} (hs : SRep num C s a) {t : Nat} {b : Bool} {j : Nat} {c : Bool} (hg : o.guard = some (j, b)) (hj : (ops[j]?).bind (·.dst) = some t) (ht : t < a.tmps.size) (hc : s.env.get t = .imm (.val (.bool c))) :
    Region.wanted o (yielded ops a.tmps) = (c == b) := by
  have h1 := hs.env t
  rw [hc] at h1
  have h2 := rep_val h1
  have h3 : a.tmps[t]? = some (.bool c) := by
    simp only [Array.getD, ht, dite_true] at h2
    rw [Array.getElem?_eq_getElem ht]; exact congrArg some h2
  simp only [Region.wanted, hg, yielded, hj, Option.bind_some, h3]
  cases c <;> cases b <;> rfl
theorem unwanted_of {ops : Array Oper} {o : Oper} {a : Act} {C : Cx} {s : St} (hs : SRep num C s a) {t : Nat} {b : Bool} {j : Nat} (hg : o.guard = some (j, b)) (hj : (ops[j]?).bind (·.dst) = some t) (ht : t < a.tmps.size) (hc : s.env.get t = .tup []) :
    Region.wanted o (yielded ops a.tmps) = false := by
  have h1 := hs.env t
  rw [hc] at h1
  have h3 : a.tmps[t]? = some (.tuple #[]) := by
    generalize hv : a.tmps.getD t undef = v at h1
    cases h1 with
    | tup _ vs hl _ =>
      have : vs = #[] := by simpa using hl.symm
      subst this
      simp only [Array.getD, ht, dite_true] at hv
      rw [Array.getElem?_eq_getElem ht]; exact congrArg some hv
  simp only [Region.wanted, hg, yielded, hj, Option.bind_some, h3]
  cases b <;> rfl
theorem skip_rep (C : Cx) : ARep num C (.tup []) undef := .tup [] #[] rfl fun j x u hx _ => by simp at hx
theorem one_wp {ro : Option Nat} {call : Calls'} (hcall : CallOK num P call) {N : Nat} {ops : Array Oper} {o : Oper} {x : XO} (htr : trOper P num N ops o = some x.wipe) {a : Act} {C : Cx} {s s' : St} (hs : SRep num C s a) (hN : N ≤ a.tmps.size) (h : exOne call s x = some s')
    {K : Act → World → Prop} {Q : Exit → Act → World → Prop} (hK : ∀ D a', Later num s.k C s.mem a D s' a' → K a' D.w) :
    if Region.wanted o (yielded ops a.tmps) then o.wpIn (fz ro) 0 P a C.w K Q else (∀ f, o.about P C.w a.eval = some f → (fz ro).fn f) ∧ K (a.put o.dst undef) C.w := by
  obtain ⟨h1, h2, h3, h4, hgd⟩ := trOper_spec htr
  have hguard : x.wipe.guard = x.guard := rfl
  have hdst : x.wipe.dst = x.dst := rfl
  rw [hguard] at h2
  rw [hdst] at h3
  have wgd : ∀ (t : Nat) (b : Bool), x.guard = some (t, b) → ∃ j, o.guard = some (j, b) ∧ (ops[j]?).bind (·.dst) = some t := by
    intro t b hx
    rw [hx] at h2
    unfold trGuard at h2
    split at h2
    · cases h2
    · rename_i j b' hjb
      split at h2
      · rename_i t' ht
        simp only [Option.some.injEq, Prod.mk.injEq] at h2
        obtain ⟨rfl, rfl⟩ := h2
        exact ⟨_, hjb, ht⟩
      · cases h2
  rcases exOne_bind h with ⟨v, s1, hx, rfl, hg⟩ | ⟨rfl, t, b, hg, hc⟩
  · have hw : Region.wanted o (yielded ops a.tmps) = true := by
      rcases hg with hg | ⟨t, b, hg, hc⟩
      · rw [hg] at h2
        unfold trGuard at h2
        split at h2
        · simp [Region.wanted, *]
        · split at h2 <;> simp at h2
      · obtain ⟨j, hj, hd⟩ := wgd t b hg
        rw [wanted_of hs hj hd (Nat.lt_of_lt_of_le (hgd t b hg) hN) hc]; simp
    rw [if_pos hw]
    have := does_wp (ro := ro) hs.mem (exOp_does (ty := o.type) (pos := o.pos) (after := o.after) hcall hs h1 hx) hN h4 o.guard (K := K) (Q := Q)
    obtain ⟨d, op, ty, pos, after, g⟩ := o
    dsimp only at *
    refine this fun D a' hl => hK D a' ?_
    rw [h3]
    exact hl
  · obtain ⟨j, hj, hd⟩ := wgd t b hg
    have hw : Region.wanted o (yielded ops a.tmps) = false := by
      rcases hc with ⟨c, hc, hne⟩ | hc
      · rw [wanted_of hs hj hd (Nat.lt_of_lt_of_le (hgd t b hg) hN) hc]; simpa using hne
      · exact unwanted_of hs hj hd (Nat.lt_of_lt_of_le (hgd t b hg) hN) hc
    rw [hw]
    simp only [Bool.false_eq_true, if_false]
    refine ⟨fun _ _ => trivial, hK C _ ?_⟩
    rw [h3]
    exact bind_later hs.mem hN h4 (.refl hs.mem hs.k) hs.env (skip_rep C) rfl
theorem list_wp {ro : Option Nat} {call : Calls'} (hcall : CallOK num P call) {N : Nat} {ops : Array Oper} {Q : Exit → Act → World → Prop} : ∀ (l : List Oper) (xs : List XO) {a : Act} {C : Cx} {s s' : St}, trOps P num N ops l = xs.map XO.wipe → SRep num C s a → N ≤ a.tmps.size → exOps call s xs = some s' →
    (∀ D a', Later num s.k C s.mem a D s' a' → Q .normal a' D.w) → wpListIn (fz ro) 0 P ops Q l a C.w
  | [], xs, a, C, s, s', htr, hs, _, h, hQ => by
    cases xs with
    | nil => cases h; exact hQ C a (.refl hs)
    | cons x r => simp [trOps] at htr
  | o :: l, xs, a, C, s, s', htr, hs, hN, h, hQ => by
    simp only [trOps] at htr
    cases ho : trOper P num N ops o with
    | none =>
      rw [ho] at htr
      cases xs with
      | nil => simp at htr
      | cons x r =>
        simp only [List.map_cons, List.cons.injEq] at htr
        have hb : x.wipe = badOp := htr.1.symm
        have h1 : x.op = .callV (.c (.bool true)) [] ∧ x.guard = none := by
          obtain ⟨d, op, g⟩ := x
          simp only [XO.wipe, badOp, XO.mk.injEq] at hb
          obtain ⟨_, h2, h3⟩ := hb
          refine ⟨?_, h3⟩
          cases op <;> simp only [XOp.wipe, reduceCtorEq] at h2
          exact h2
        simp only [exOps] at h
        unfold exOne at h
        simp only [h1.1, h1.2, exOp, Env.ev, Option.map_none, Option.bind_none] at h
        cases h
    | some y =>
      rw [ho] at htr
      cases xs with
      | nil => simp at htr
      | cons x r =>
        simp only [List.map_cons, List.cons.injEq] at htr
        obtain ⟨h1, h2⟩ := htr
        subst h1
        simp only [exOps] at h
        cases hx : exOne call s x with
        | none => rw [hx] at h; cases h
        | some s1 =>
          rw [hx] at h
          simp only [Option.bind_some] at h
          have := one_wp hcall ho hs hN hx (ro := ro) (Q := Q) (K := wpListIn (fz ro) 0 P ops Q l) fun D a' hl =>
            list_wp hcall l r h2 hl.rep (by rw [hl.size]; exact hN) h fun E a'' hl' => hQ E a'' (hl.trans (by rw [hl.k] at hl'; exact hl'))
          unfold wpListIn
          exact this
theorem wpAnyIn_of_seq {F : Fence} {n : Nat} {md : Region.Mode} {ops : Array Oper} {Q' : Exit → Act → World → Prop} : ∀ (l : List Oper) (k : Nat) (listed : Array Bool) (a : Act) (w : World), (∀ j, l[j]? = ops[k + j]?) →
    Region.seqB md ops l.length k listed = true → wpListIn F n P ops Q' l a w → wpAnyIn F n P md ops Q' l.length listed a w
  | [], _, _, _, _, _, hB, h => ⟨by simpa [Region.seqB] using hB, h⟩
  | o :: l, k, listed, a, w, hl, hB, h => by
    have h0 : ops[k]? = some o := by simpa using (hl 0).symm
    simp only [List.length_cons, Region.seqB, Bool.and_eq_true, decide_eq_true_eq] at hB
    refine ⟨fun h1 => (by rw [hB.1] at h1; cases h1), fun i hi => ?_⟩
    rw [hB.1] at hi
    have hik : i = k := by simpa using hi
    subst hik
    have hw : wpOpIn F n P ops Q' i (wpListIn F n P ops Q' l) a w := by unfold wpOpIn; simp only [h0]; exact h
    exact wpOpIn_mono (fun a' w' h' => wpAnyIn_of_seq l (i + 1) _ a' w' (fun j => by have := hl (j + 1); simpa [Nat.add_assoc, Nat.add_comm 1 j] using this) hB.2 h') hw
end
end Go.EX


set_option linter.unusedVariables false
set_option linter.unusedSimpArgs false
namespace Go.EX
theorem ev_congr {s t : Env} {y : Src} (he : ∀ n ∈ srcTmp y, t.get n = s.get n) : t.ev y = s.ev y := by
  cases y with
  | t n => exact he n (by simp [srcTmp])
  | c v => rfl
  | f n => rfl
theorem evO_congr {s t : Env} {y : Option Src} (he : ∀ n ∈ srcTmpO y, t.get n = s.get n) : y.map t.ev = y.map s.ev := by
  cases y with
  | none => rfl
  | some y => exact congrArg some (ev_congr he)
theorem evL_congr {s t : Env} {l : List Src} (he : ∀ n ∈ l.flatMap srcTmp, t.get n = s.get n) : l.map t.ev = l.map s.ev :=
  List.map_congr_left fun y hy => ev_congr fun n hn => he n (List.mem_flatMap.2 ⟨y, hy, hn⟩)
theorem evP_congr {s t : Env} {l : List (Nat × Nat × Src)} (he : ∀ n ∈ l.flatMap (fun p => srcTmp p.2.2), t.get n = s.get n) : l.map (fun (o, n, x) => (o, n, t.ev x)) = l.map fun (o, n, x) => (o, n, s.ev x) :=
  List.map_congr_left fun y hy => by
    have := ev_congr (s := s) (t := t) (y := y.2.2) fun n hn => he n (List.mem_flatMap.2 ⟨y, hy, hn⟩)
    simp only [this]
def In (K : Nat → Prop) (x : AV) : Prop := ∀ id ∈ x.refs, K id
def InL (K : Nat → Prop) (l : List AV) : Prop := ∀ x ∈ l, In K x
theorem in_agg {K : Nat → Prop} {l : List AV} : In K (.agg l) ↔ InL K l := by
  constructor
  · intro h x hx id hid; exact h id (by simp only [AV.refs]; exact refsL_mem.2 ⟨x, hx, hid⟩)
  · intro h id hid; simp only [AV.refs] at hid; obtain ⟨x, hx, hid⟩ := refsL_mem.1 hid; exact h x hx id hid
theorem in_tup {K : Nat → Prop} {l : List AV} : In K (.tup l) ↔ InL K l := by
  constructor
  · intro h x hx id hid; exact h id (by simp only [AV.refs]; exact refsL_mem.2 ⟨x, hx, hid⟩)
  · intro h id hid; simp only [AV.refs] at hid; obtain ⟨x, hx, hid⟩ := refsL_mem.1 hid; exact h x hx id hid
theorem in_clo {K : Nat → Prop} {n : Nat} {l : List AV} : In K (.clo n l) ↔ InL K l := by
  constructor
  · intro h x hx id hid; exact h id (by simp only [AV.refs]; exact refsL_mem.2 ⟨x, hx, hid⟩)
  · intro h id hid; simp only [AV.refs] at hid; obtain ⟨x, hx, hid⟩ := refsL_mem.1 hid; exact h x hx id hid
theorem in_imm {K : Nat → Prop} {x : IV} : In K (.imm x) := fun id hid => by simp [AV.refs] at hid
theorem in_junk {K : Nat → Prop} : In K .junk := fun id hid => by simp [AV.refs] at hid
theorem in_optr {K : Nat → Prop} {i o : Nat} : In K (.optr i o) ↔ K i := by simp [In, AV.refs]
theorem in_osl {K : Nat → Prop} {i a b c : Nat} {d : Option Nat} : In K (.osl i a b c d) ↔ K i := by simp [In, AV.refs]
theorem in_omap {K : Nat → Prop} {i : Nat} : In K (.omap i) ↔ K i := by simp [In, AV.refs]
theorem in_ev {K : Nat → Prop} {e : Env} {y : Src} (h : ∀ n ∈ srcTmp y, In K (e.get n)) : In K (e.ev y) := by
  cases y with
  | t n => exact h n (by simp [srcTmp])
  | c v => exact in_imm
  | f n => exact in_clo.2 fun x hx => by cases hx
theorem InL.get {K : Nat → Prop} {l : List AV} (h : InL K l) {j : Nat} {x : AV} (hx : l[j]? = some x) : In K x := h x (List.mem_of_getElem? hx)
theorem InL.mapImm {K : Nat → Prop} {α : Type} (l : List α) (f : α → IV) : InL K (l.map fun x => .imm (f x)) := fun x hx => by obtain ⟨y, _, rfl⟩ := List.mem_map.1 hx; exact in_imm
theorem in_setAll {K : Nat → Prop} : ∀ (xs l : List AV) (off : Nat), InL K l → InL K xs → InL K (setAll l off xs)
  | [], l, off, hl, _ => hl
  | x :: xs, l, off, hl, hx => by
    simp only [setAll]
    refine in_setAll xs _ _ (fun y hy => ?_) (fun y hy => hx y (List.mem_cons_of_mem _ hy))
    rcases List.mem_or_eq_of_mem_set hy with h | h
    · exact hl y h
    · rw [h]; exact hx x (List.mem_cons_self ..)
theorem in_cells {K : Nat → Prop} {x : AV} {cs : List AV} (h : In K x) (hc : x.cells = some cs) : InL K cs := by
  cases x <;> simp only [AV.cells, Option.some.injEq, reduceCtorEq] at hc <;> subst hc <;> first | exact in_agg.1 h | (intro y hy; rw [List.mem_singleton.1 hy]; exact h)
theorem in_fill {K : Nat → Prop} : ∀ (ps : List (Nat × Nat × AV)) (cs r : List AV), InL K cs → (∀ p ∈ ps, In K p.2.2) → fillAll cs ps = some r → InL K r
  | [], cs, r, hc, _, h => by cases h; exact hc
  | (off, n, v) :: ps, cs, r, hc, hp, h => by
    simp only [fillAll] at h
    split at h
    · rename_i vs hv
      split at h
      · exact in_fill ps _ _ (in_setAll vs cs off hc (in_cells (hp _ (List.mem_cons_self ..)) hv)) (fun p hp' => hp p (List.mem_cons_of_mem _ hp')) h
      · cases h
    · cases h
theorem in_cut {K : Nat → Prop} {l r : List AV} {off n : Nat} (hl : InL K l) (h : cut l off n = some r) : InL K r := by
  unfold cut at h
  dsimp only at h
  split at h
  · cases h; exact fun x hx => hl x (List.mem_of_mem_drop (List.mem_of_mem_take hx))
  · cases h
theorem in_getCells {K : Nat → Prop} {l : List AV} {agg : Option Nat} {off : Nat} {r : AV} (hl : InL K l) (h : getCells agg l off = some r) : In K r := by
  cases agg with
  | none => exact hl.get h
  | some n =>
    simp only [getCells, Option.map_eq_some_iff] at h
    obtain ⟨c, hc, rfl⟩ := h
    exact in_agg.2 (in_cut hl hc)
theorem in_getCellsI {K : Nat → Prop} {l : List IV} {agg : Option Nat} {off : Nat} {r : AV} (h : getCellsI agg l off = some r) : In K r := by
  cases agg with
  | none => simp only [getCellsI, Option.map_eq_some_iff] at h; obtain ⟨c, _, rfl⟩ := h; exact in_imm
  | some n =>
    simp only [getCellsI, Option.map_eq_some_iff] at h
    obtain ⟨c, hc, rfl⟩ := h
    exact in_agg.2 (InL.mapImm c id)
theorem in_imZ {K : Nat → Prop} (zs : List Value) : InL K (imZ zs) := InL.mapImm zs .val
structure Agree (K : Nat → Prop) (s t : Mem) : Prop where
  same : ∀ id, K id → t[id]? = s[id]?
  closed : ∀ id o, K id → s[id]? = some o → ∀ j ∈ o.refs, K j
theorem in_rich {K : Nat → Prop} {s t : Mem} (h : Agree K s t) {id : Nat} (hk : K id) {cs : List AV} (hc : s[id]? = some (.rich cs)) : InL K cs := fun x hx j hj => h.closed id _ hk hc j (by simp only [AObj.refs]; exact refsL_mem.2 ⟨x, hx, hj⟩)
theorem in_map {K : Nat → Prop} {s t : Mem} (h : Agree K s t) {id : Nat} (hk : K id) {es : List (AV × AV)} (hc : s[id]? = some (.map es)) : ∀ p ∈ es, In K p.1 ∧ In K p.2 := fun p hp =>
  ⟨fun j hj => h.closed id _ hk hc j (by simp only [AObj.refs, List.mem_append]; exact .inl (refsL_mem.2 ⟨p.1, List.mem_map.2 ⟨p, hp, rfl⟩, hj⟩)),
   fun j hj => h.closed id _ hk hc j (by simp only [AObj.refs, List.mem_append]; exact .inr (refsL_mem.2 ⟨p.2, List.mem_map.2 ⟨p, hp, rfl⟩, hj⟩))⟩
theorem mapM_congr {α β : Type} {f g : α → Option β} : ∀ (l : List α), (∀ x ∈ l, f x = g x) → l.mapM f = l.mapM g
  | [], _ => rfl
  | x :: r, h => by
    rw [List.mapM_cons, List.mapM_cons, h x (List.mem_cons_self ..), mapM_congr r fun y hy => h y (List.mem_cons_of_mem _ hy)]
theorem frzV_agree {K : Nat → Prop} {s t : Mem} (h : Agree K s t) : ∀ (n : Nat) (x : AV), In K x → frzV t n x = frzV s n x
  | n, .imm x, _ => by cases n <;> rfl
  | 0, .osl .., _ => rfl
  | 0, .optr .., _ => rfl
  | n + 1, .osl id off sz len cap, hx => by
    have hk := in_osl.1 hx
    simp only [frzV, h.same id hk]
    cases hc : s[id]? with
    | none => rfl
    | some o =>
      cases o with
      | rich cs => simp only []; rw [mapM_congr cs fun y hy => frzV_agree h n y (in_rich h hk hc y hy)]
      | _ => rfl
  | n + 1, .optr id off, hx => by
    have hk := in_optr.1 hx
    simp only [frzV, h.same id hk]
    cases hc : s[id]? with
    | none => rfl
    | some o =>
      cases o with
      | rich cs => simp only []; rw [mapM_congr cs fun y hy => frzV_agree h n y (in_rich h hk hc y hy)]
      | _ => rfl
  | n, .omap _, _ => by cases n <;> rfl
  | n, .clo .., _ => by cases n <;> rfl
  | n, .agg _, _ => by cases n <;> rfl
  | n, .tup _, _ => by cases n <;> rfl
  | n, .yld _, _ => by cases n <;> rfl
  | n, .junk, _ => by cases n <;> rfl
theorem frz1_agree {K : Nat → Prop} {s t : Mem} (h : Agree K s t) (x : AV) (hx : In K x) : frz.frz1 t x = frz.frz1 s x := by
  cases x with
  | agg cs => simp only [frz.frz1]; rw [mapM_congr cs fun y hy => frzV_agree h 20 y (in_agg.1 hx y hy)]
  | _ => simp only [frz.frz1]; rw [frzV_agree h 20 _ hx]
theorem frzC_agree {K : Nat → Prop} {s t : Mem} (h : Agree K s t) (x : AV) (hx : In K x) : frz.frzC t x = frz.frzC s x := by
  cases x with
  | clo fn caps => rfl
  | _ => simp only [frz.frzC]; rw [frzV_agree h 20 _ hx]
theorem frz_agree {K : Nat → Prop} {s t : Mem} (h : Agree K s t) (x : AV) (hx : In K x) : frz t x = frz s x := by
  cases x with
  | agg cs => simp only [frz]; rw [mapM_congr cs fun y hy => frzV_agree h 20 y (in_agg.1 hx y hy)]
  | tup vs => simp only [frz]; rw [mapM_congr vs fun y hy => frz1_agree h y (in_tup.1 hx y hy)]
  | clo fn caps => simp only [frz]; rw [mapM_congr caps fun y hy => frzC_agree h y (in_clo.1 hx y hy)]
  | _ => simp only [frz]; rw [frzV_agree h 20 _ hx]
theorem in_aggImm {K : Nat → Prop} (l : List IV) : In K (.agg (l.map .imm)) := in_agg.2 (InL.mapImm l id)
mutual
theorem refs_none : ∀ (x : AV), (x.ren fun _ => none).refs = []
  | .imm _ => rfl
  | .osl .. => rfl
  | .optr .. => rfl
  | .omap _ => rfl
  | .clo fn caps => by simp only [AV.ren, AV.refs]; exact refsL_none caps
  | .agg cells => by simp only [AV.ren, AV.refs]; exact refsL_none cells
  | .tup vs => by simp only [AV.ren, AV.refs]; exact refsL_none vs
  | .yld _ => rfl
  | .junk => rfl
theorem refsL_none : ∀ (l : List AV), AV.refs.refsL (AV.ren.renL (fun _ => none) l) = []
  | [] => rfl
  | x :: r => by simp only [AV.ren.renL, AV.refs.refsL, refs_none x, refsL_none r, List.append_nil]
end
theorem in_frz {K : Nat → Prop} {m : Mem} {x y : AV} (h : frz m x = some y) : In K y := by
  have one : ∀ {x y : AV}, frz.frz1 m x = some y → In K y := by
    intro x y h
    cases x <;> simp only [frz.frz1, Option.map_eq_some_iff] at h <;> obtain ⟨l, _, rfl⟩ := h <;> first | exact in_imm | exact in_aggImm l
  cases x with
  | agg cs => simp only [frz, Option.map_eq_some_iff] at h; obtain ⟨l, _, rfl⟩ := h; exact in_aggImm l
  | tup vs =>
    simp only [frz, Option.map_eq_some_iff] at h
    obtain ⟨l, hl, rfl⟩ := h
    refine in_tup.2 fun y hy => ?_
    obtain ⟨j, hj⟩ := List.getElem?_of_mem hy
    obtain ⟨x, _, hx⟩ := (mapM_get _ vs l hl).2 j y hj
    exact one hx
  | clo fn caps =>
    simp only [frz, Option.map_eq_some_iff] at h
    obtain ⟨l, hl, rfl⟩ := h
    refine in_clo.2 fun y hy => ?_
    obtain ⟨j, hj⟩ := List.getElem?_of_mem hy
    obtain ⟨x, _, hx⟩ := (mapM_get _ caps l hl).2 j y hj
    cases x with
    | clo g cs =>
      simp only [frz.frzC, Option.some.injEq] at hx
      subst hx
      intro id hid
      simp only [AV.refs, refsL_none] at hid
      cases hid
    | _ => simp only [frz.frzC, Option.map_eq_some_iff] at hx; obtain ⟨l, _, rfl⟩ := hx; exact in_imm
  | _ => simp only [frz, Option.map_eq_some_iff] at h; obtain ⟨l, _, rfl⟩ := h; exact in_imm
theorem load_agree {K : Nat → Prop} {s t : Mem} (h : Agree K s t) {agg : Option Nat} {x : AV} (hx : In K x) : loadAt t agg x = loadAt s agg x := by
  unfold loadAt
  cases x with
  | optr id off => simp only [h.same id (in_optr.1 hx)]
  | imm y => cases y <;> rfl
  | _ => rfl
theorem in_load {K : Nat → Prop} {s t : Mem} (h : Agree K s t) {agg : Option Nat} {x r : AV} (hx : In K x) (hr : loadAt s agg x = some r) : In K r := by
  unfold loadAt at hr
  split at hr
  · exact in_getCellsI hr
  · rename_i id off
    have hk := in_optr.1 hx
    split at hr
    · exact in_getCellsI hr
    · rename_i cs hc; exact in_getCells (in_rich h hk hc) hr
    · exact in_getCellsI hr
    · cases hr
  · cases hr
theorem elems_agree {K : Nat → Prop} {s t : Mem} (h : Agree K s t) (sz : Nat) {x : AV} (hx : In K x) : elems t sz x = elems s sz x := by
  cases x with
  | osl id off sz' len cap => simp only [elems, h.same id (in_osl.1 hx)]
  | imm v =>
    cases v with
    | val u =>
      cases u with
      | slice b l c => cases b <;> cases l <;> cases c <;> rfl
      | _ => rfl
    | _ => rfl
  | _ => rfl
theorem strOf_agree {K : Nat → Prop} {s t : Mem} (h : Agree K s t) {x : AV} (hx : In K x) : strOfV t x = strOfV s x := by
  unfold strOfV
  split
  · rfl
  · rw [elems_agree h 1 hx]
theorem keyEq_agree {K : Nat → Prop} {s t : Mem} (h : Agree K s t) (kind : Nat) {x y : AV} (hx : In K x) (hy : In K y) : keyEq t kind x y = keyEq s kind x y := by
  unfold keyEq
  split <;> first | rfl | skip
  rename_i i o j p
  rw [h.same i (in_optr.1 hx), h.same j (in_optr.1 hy)]
theorem findK_agree {K : Nat → Prop} {s t : Mem} (h : Agree K s t) (kind : Nat) {k : AV} (hk : In K k) : ∀ (es : List (AV × AV)) (i : Nat), (∀ p ∈ es, In K p.1) → findK t kind k es i = findK s kind k es i
  | [], _, _ => rfl
  | e :: es, i, he => by
    simp only [findK, keyEq_agree h kind hk (he e (List.mem_cons_self ..)), findK_agree h kind hk es (i + 1) fun p hp => he p (List.mem_cons_of_mem _ hp)]
theorem in_plain1 {K : Nat → Prop} {x : AV} (h : x.plain1 = true) : In K x := by
  unfold AV.plain1 at h
  split at h
  · exact in_imm
  · cases h
theorem in_plain2 {K : Nat → Prop} {x : AV} (h : x.plain2 = true) : In K x := by
  cases x with
  | agg cs => exact in_agg.2 fun y hy => in_plain1 (List.all_eq_true.1 h y hy)
  | _ => exact in_plain1 h
theorem in_plain {K : Nat → Prop} {x : AV} (h : x.plain = true) : In K x := by
  cases x with
  | tup cs => exact in_tup.2 fun y hy => in_plain2 (List.all_eq_true.1 h y hy)
  | _ => exact in_plain2 h
end Go.EX


set_option linter.unusedVariables false
set_option linter.unusedSimpArgs false
namespace Go.EX
structure Makes (K : Nat → Prop) (len : Nat) (val : Nat → AV) (new : Nat → List AObj) : Prop where
  size : ∀ p, (new p).length = len
  inV : ∀ p, In (fun id => K id ∨ (p ≤ id ∧ id < p + len)) (val p)
  inN : ∀ p o, o ∈ new p → ∀ id ∈ o.refs, K id ∨ (p ≤ id ∧ id < p + len)
  ren : ∀ p q f, (∀ j, j < len → f (p + j) = some (q + j)) → (∀ id, K id → f id = some id) → (val p).ren f = val q ∧ (new p).map (AObj.ren f) = new q
theorem makes_one {K : Nat → Prop} (o : AObj) (ho : ∀ id ∈ o.refs, K id) (val : Nat → AV) (hv : ∀ p, (val p).refs = [p]) (hr : ∀ p q f, f p = some q → (val p).ren f = val q) : Makes K 1 val fun _ => [o] := by
  refine ⟨fun _ => rfl, fun p id hid => ?_, fun p o' ho' id hid => ?_, fun p q f h1 h2 => ⟨hr p q f (by simpa using h1 0 (by omega)), ?_⟩⟩
  · rw [hv] at hid; simp at hid; exact .inr (by omega)
  · rw [List.mem_singleton.1 ho'] at hid; exact .inl (ho id hid)
  · simp only [List.map_cons, List.map_nil]
    rw [obj_ren_id fun id hid => h2 id (ho id hid)]
theorem in_mkObj {K : Nat → Prop} {cs : List AV} (h : InL K cs) : ∀ id ∈ (mkObj cs).refs, K id := by
  unfold mkObj
  split
  · intro id hid; simp [AObj.refs] at hid
  · intro id hid; simp only [AObj.refs] at hid; obtain ⟨x, hx, hid⟩ := refsL_mem.1 hid; exact h x hx id hid
theorem reach_agree {K : Nat → Prop} {s t : Mem} (h : Agree K s t) : ∀ (n : Nat) (todo acc : List Nat), (∀ x ∈ todo, K x) → (∀ x ∈ acc, K x) → reach t n todo acc = reach s n todo acc ∧ ∀ x ∈ reach s n todo acc, K x
  | 0, todo, acc, h1, h2 => by simp only [reach, true_and]; exact h2
  | n + 1, [], acc, h1, h2 => by simp only [reach, true_and]; exact h2
  | n + 1, id :: todo, acc, h1, h2 => by
    have hk := h1 id (by simp)
    have hs := h.same id hk
    have hlt : id < t.length ↔ id < s.length := by
      constructor
      · intro hi; rw [List.getElem?_eq_getElem hi] at hs; exact (List.getElem?_eq_some_iff.1 hs.symm).1
      · intro hi; rw [List.getElem?_eq_getElem hi] at hs; exact (List.getElem?_eq_some_iff.1 hs).1
    simp only [reach, hs, hlt]
    have ht : ∀ x ∈ todo, K x := fun x hx => h1 x (by simp [hx])
    split
    · exact reach_agree h n todo acc ht h2
    · split
      · rename_i hi
        refine reach_agree h n _ _ (fun x hx => ?_) (fun x hx => ?_)
        · rcases List.mem_append.1 hx with hx | hx
          · exact ht x hx
          · rw [List.getElem?_eq_getElem hi] at hx
            exact h.closed id _ hk (List.getElem?_eq_getElem hi) x hx
        · rcases List.mem_append.1 hx with hx | hx
          · exact h2 x hx
          · rw [List.mem_singleton.1 hx]; exact hk
      · exact reach_agree h n todo acc ht h2
theorem pickAll_agree {K : Nat → Prop} {s t : Mem} (h : Agree K s t) {l : List Nat} (hl : ∀ x ∈ l, K x) : t.pickAll l = s.pickAll l := by
  unfold Mem.pickAll
  refine List.map_congr_left fun x hx => ?_
  rw [h.same x (hl x hx)]
theorem order_agree {K : Nat → Prop} {s t : Mem} (hm : Agree K s t) {as : List AV} (hk : InL K as) : order 0 (AV.refs.refsL as) t = order 0 (AV.refs.refsL as) s ∧ ∀ x ∈ order 0 (AV.refs.refsL as) s, K x := by
  have hroots : ∀ x ∈ AV.refs.refsL as, K x := fun x hx => by
    obtain ⟨y, hy, hxy⟩ := refsL_mem.1 hx
    exact hk y hy x hxy
  have h0 : ∀ m : Mem, order 0 (AV.refs.refsL as) m = reach m 1000000000000 (AV.refs.refsL as ++ Mem.refs (m.take 0)) (List.range 0) := fun _ => rfl
  rw [h0, h0]
  simp only [List.take_zero]
  refine reach_agree hm 1000000000000 _ _ (fun x hx => ?_) (fun x hx => ?_)
  · rcases List.mem_append.1 hx with hx | hx
    · exact hroots x hx
    · simp [Mem.refs] at hx
  · simp at hx
theorem look_congr {call : Calls'} {K : Nat → Prop} {s t : St} {fn : Nat} {as : List AV} (hm : Agree K s.mem t.mem) (hk : InL K as) {r : AV} {s' : St} (h : exLook call s fn as = some (r, s')) :
    ∃ (len : Nat) (val : Nat → AV) (new : Nat → List AObj), Makes K len val new ∧ r = val s.mem.length ∧ s' = { s with mem := s.mem ++ new s.mem.length } ∧ exLook call t fn as = some (val t.mem.length, { t with mem := t.mem ++ new t.mem.length }) := by
  have hord := order_agree hm hk
  unfold exLook at h ⊢
  dsimp only at h ⊢
  rw [hord.1, pickAll_agree hm hord.2]
  have hK := hord.2
  clear hord
  generalize order 0 (AV.refs.refsL as) s.mem = l at *
  cases hc : call fn (AV.ren.renL (place l) as) (s.mem.pickAll l) with
  | none => simp [hc] at h
  | some rm =>
    obtain ⟨rv, mc⟩ := rm
    simp only [hc] at h ⊢
    split at h
    case isFalse => cases h
    rename_i hq
    obtain ⟨hmc, hall⟩ := hq
    rw [Bool.and_eq_true] at hall
    obtain ⟨ha1, ha2⟩ := hall
    rw [Bool.and_eq_true] at ha2
    have hb1 : ∀ i ∈ rv.refs, i < mc.length := fun i hi => by simpa using List.all_eq_true.1 ha2.1 i hi
    have hb2 : ∀ o ∈ mc.drop l.length, ∀ i ∈ o.refs, i < mc.length := fun o ho i hi => by
      have := List.all_eq_true.1 ha2.2 o (List.mem_of_mem_drop ho)
      simpa using List.all_eq_true.1 this i hi
    cases h
    have hback : ∀ (p i id : Nat), i < mc.length → (if i < l.length then l[i]? else some (p + (i - l.length))) = some id → K id ∨ (p ≤ id ∧ id < p + (mc.length - l.length)) := by
      intro p i id hi he
      split at he
      · exact .inl (hK id (List.mem_of_getElem? he))
      · cases he; right; omega
    have hbind : ∀ (p q : Nat) (f : Nat → Option Nat), (∀ j, j < mc.length - l.length → f (p + j) = some (q + j)) → (∀ id, K id → f id = some id) → ∀ i, i < mc.length → ((if i < l.length then l[i]? else some (p + (i - l.length))).bind f) = (if i < l.length then l[i]? else some (q + (i - l.length))) := by
      intro p q f h1 h2 i hi
      split
      · rename_i hil
        rw [List.getElem?_eq_getElem hil, Option.bind_some]
        exact h2 _ (hK _ (List.getElem_mem hil))
      · rw [Option.bind_some]; exact h1 _ (by omega)
    refine ⟨mc.length - l.length, fun p => rv.ren fun i => if i < l.length then l[i]? else some (p + (i - l.length)), fun p => (mc.drop l.length).map (AObj.ren fun i => if i < l.length then l[i]? else some (p + (i - l.length))), ⟨fun p => by simp, fun p id hid => ?_, fun p o ho id hid => ?_, fun p q f h1 h2 => ⟨?_, ?_⟩⟩, rfl, rfl, ?_⟩
    · obtain ⟨i, hi, e⟩ := ren_refs rv id hid
      exact hback p i id (hb1 i hi) e
    · obtain ⟨o', ho', rfl⟩ := List.mem_map.1 ho
      obtain ⟨i, hi, e⟩ := obj_ren_refs o' id hid
      exact hback p i id (hb2 o' ho' i hi) e
    · rw [ren_ren]
      exact ren_congr rv fun i hi => hbind p q f h1 h2 i (hb1 i hi)
    · rw [List.map_map]
      refine List.map_congr_left fun o ho => ?_
      simp only [Function.comp, obj_ren_ren]
      exact obj_ren_congr o fun i hi => hbind p q f h1 h2 i (hb2 o ho i hi)
    · rw [if_pos]
      refine ⟨hmc, ?_⟩
      rw [Bool.and_eq_true, Bool.and_eq_true]
      refine ⟨?_, ha2⟩
      rw [List.all_eq_true] at ha1 ⊢
      intro id hid
      have := ha1 id hid
      rw [hm.same id (hK id hid)]
      exact this
theorem make_congr {call : Calls'} {K : Nat → Prop} {x : XOp} (hc : makeOp x = true) {s t : St} (hm : Agree K s.mem t.mem) (he : ∀ n ∈ x.needs, t.env.get n = s.env.get n) (hk : ∀ n ∈ x.needs, In K (s.env.get n))
    (hb : ∀ fn l as r mc, x = .call .own fn l → (l.map s.env.ev).mapM (frz s.mem) = some as → call fn as [] = some (r, mc) → (∀ id ∈ r.refs, id < mc.length) ∧ ∀ o ∈ mc, ∀ id ∈ o.refs, id < mc.length) {r : AV} {s' : St} (h : exOp call s x = some (r, s')) :
    ∃ (len : Nat) (val : Nat → AV) (new : Nat → List AObj), Makes K len val new ∧ r = val s.mem.length ∧ s' = { s with mem := s.mem ++ new s.mem.length } ∧ exOp call t x = some (val t.mem.length, { t with mem := t.mem ++ new t.mem.length }) := by
  have e1 : ∀ y, (∀ n ∈ srcTmp y, n ∈ x.needs) → t.env.ev y = s.env.ev y := fun y hy => ev_congr fun n hn => he n (hy n hn)
  have k1 : ∀ y, (∀ n ∈ srcTmp y, n ∈ x.needs) → In K (s.env.ev y) := fun y hy => in_ev fun n hn => hk n (hy n hn)
  cases x with
  | alloc zs =>
    cases h
    refine ⟨1, fun id => .optr id 0, fun _ => [.rich (imZ zs)], makes_one _ (fun id hid => ?_) _ (fun _ => rfl) (fun p q f hf => by simp [AV.ren, hf]), rfl, rfl, rfl⟩
    simp only [AObj.refs] at hid; obtain ⟨x, hx, hid⟩ := refsL_mem.1 hid; exact in_imZ zs x hx id hid
  | box n y =>
    have ky := k1 y (by simp [XOp.needs])
    simp only [exOp] at h ⊢
    rw [e1 y (by simp [XOp.needs])]
    cases hcs : (s.env.ev y).cells with
    | none => rw [hcs] at h; cases h
    | some cs =>
      rw [hcs] at h
      cases h
      refine ⟨1, fun id => .optr id 0, fun _ => [.rich cs], makes_one _ (fun id hid => ?_) _ (fun _ => rfl) (fun p q f hf => by simp [AV.ren, hf]), rfl, rfl, rfl⟩
      simp only [AObj.refs] at hid; obtain ⟨x, hx, hid⟩ := refsL_mem.1 hid; exact in_cells ky hcs x hx id hid
  | buildSlice sz zs len ps =>
    simp only [exOp] at h ⊢
    rw [evP_congr (s := s.env) (t := t.env) (by simpa [XOp.needs] using he)]
    cases hf : fillAll (imZ (copies len zs)) (ps.map fun (o, n, x) => (o, n, s.env.ev x)) with
    | none => rw [hf] at h; cases h
    | some cs =>
      rw [hf] at h
      cases h
      refine ⟨1, fun id => .osl id 0 sz len (some len), fun _ => [mkObj cs], makes_one _ (in_mkObj (in_fill _ _ _ (in_imZ _) (fun p hp => ?_) hf)) _ (fun _ => rfl) (fun p q f hf => by simp [AV.ren, hf]), rfl, rfl, rfl⟩
      obtain ⟨q, hq, rfl⟩ := List.mem_map.1 hp
      exact k1 q.2.2 fun n hn => by simp only [XOp.needs]; exact List.mem_flatMap.2 ⟨q, hq, hn⟩
  | makeSlice sz bytes zs l c =>
    simp only [exOp] at h ⊢
    rw [e1 l (by simp [XOp.needs]; intros; simp [*]), e1 c (by simp [XOp.needs]; intros; simp [*])]
    split at h
    · rename_i i j hi hj
      split at h
      · rename_i hbd
        cases h
        refine ⟨1, fun id => .osl id 0 sz i.toNat (some j.toNat), fun _ => [.flat (copies j.toNat (zs.map .val)) false], makes_one _ (fun id hid => by simp [AObj.refs] at hid) _ (fun _ => rfl) (fun p q f hf => by simp [AV.ren, hf]), rfl, rfl, ?_⟩
        simp only [hi, hj, hbd, and_self, if_true]
        rfl
      · cases h
    · cases h
  | makeMap hint =>
    have mk : Makes K 1 (fun id => .omap id) (fun _ => [.map []]) := makes_one _ (fun id hid => by simp [AObj.refs, AV.refs.refsL] at hid) _ (fun _ => rfl) (fun p q f hf => by simp [AV.ren, hf])
    simp only [exOp] at h ⊢
    cases hint with
    | none => cases h; exact ⟨1, _, _, mk, rfl, rfl, rfl⟩
    | some y =>
      simp only at h ⊢
      rw [e1 y (by simp [XOp.needs, srcTmpO])]
      split at h
      · rename_i i hi; cases h; exact ⟨1, _, _, mk, rfl, rfl, by rfl⟩
      · cases h
  | call mode fn l =>
    cases mode with
    | own =>
      simp only [exOp, exOwn] at h ⊢
      have hin : InL K (l.map s.env.ev) := fun x hx => by
        obtain ⟨q, hq, rfl⟩ := List.mem_map.1 hx
        exact k1 q fun n hn => by simp only [XOp.needs]; exact List.mem_flatMap.2 ⟨q, hq, hn⟩
      rw [evL_congr (s := s.env) (t := t.env) (by simpa [XOp.needs] using he), mapM_congr _ fun x hx => frz_agree hm x (hin x hx)]
      split at h
      · cases h
      · rename_i as has
        split at h
        · cases h
        · rename_i r0 mc hcall
          obtain ⟨hb1, hb2⟩ := hb fn l as r0 mc rfl has hcall
          split at h
          · rename_i hcond
            cases h
            refine ⟨mc.length, fun p => r0.ren fun i => some (p + i), fun p => mc.map (AObj.ren fun i => some (p + i)), ⟨fun p => by simp, fun p id hid => ?_, fun p o ho id hid => ?_, fun p q f h1 h2 => ⟨?_, ?_⟩⟩, rfl, rfl, by simp only [hcall, hcond, if_true]⟩
            · obtain ⟨i, hi, e⟩ := ren_refs r0 id hid
              cases e
              exact .inr ⟨by omega, by have := hb1 i hi; omega⟩
            · obtain ⟨o', ho', rfl⟩ := List.mem_map.1 ho
              obtain ⟨i, hi, e⟩ := obj_ren_refs o' id hid
              cases e
              exact .inr ⟨by omega, by have := hb2 o' ho' i hi; omega⟩
            · rw [ren_ren]
              exact ren_congr r0 fun id hid => by simpa using h1 id (hb1 id hid)
            · rw [List.map_map]
              refine List.map_congr_left fun o ho => ?_
              simp only [Function.comp, obj_ren_ren]
              exact obj_ren_congr o fun id hid => by simpa using h1 id (hb2 o ho id hid)
          · cases h
    | look =>
      simp only [exOp] at h ⊢
      have hin : InL K (l.map s.env.ev) := fun x hx => by
        obtain ⟨q, hq, rfl⟩ := List.mem_map.1 hx
        exact k1 q fun n hn => by simp only [XOp.needs]; exact List.mem_flatMap.2 ⟨q, hq, hn⟩
      rw [evL_congr (s := s.env) (t := t.env) (by simpa [XOp.needs] using he)]
      exact look_congr hm hin h
    | view => cases hc
    | share => cases hc
    | peek => cases hc
  | _ => cases hc
end Go.EX


set_option linter.unusedVariables false
set_option linter.unusedSimpArgs false
namespace Go.EX
theorem peek_congr {call : Calls'} {K : Nat → Prop} {s t : St} {fn : Nat} {as : List AV} (hm : Agree K s.mem t.mem) (hk : InL K as) {r : AV} {s' : St} (h : exPeek call s fn as = some (r, s')) :
    s' = s ∧ exPeek call t fn as = some (r, t) ∧ In K r := by
  have hroots : ∀ x ∈ AV.refs.refsL as, K x := fun x hx => by
    obtain ⟨y, hy, hxy⟩ := refsL_mem.1 hx
    exact hk y hy x hxy
  have hord : order 0 (AV.refs.refsL as) t.mem = order 0 (AV.refs.refsL as) s.mem ∧ ∀ x ∈ order 0 (AV.refs.refsL as) s.mem, K x := by
    have h0 : ∀ m : Mem, order 0 (AV.refs.refsL as) m = reach m 1000000000000 (AV.refs.refsL as ++ Mem.refs (m.take 0)) (List.range 0) := fun _ => rfl
    rw [h0, h0]
    simp only [List.take_zero]
    refine reach_agree hm 1000000000000 _ _ (fun x hx => ?_) (fun x hx => ?_)
    · rcases List.mem_append.1 hx with hx | hx
      · exact hroots x hx
      · simp [Mem.refs] at hx
    · simp at hx
  unfold exPeek at h ⊢
  dsimp only at h ⊢
  rw [hord.1, pickAll_agree hm hord.2]
  cases hc : call fn (AV.ren.renL (place (order 0 (AV.refs.refsL as) s.mem)) as) (s.mem.pickAll (order 0 (AV.refs.refsL as) s.mem)) with
  | none => simp [hc] at h
  | some rm =>
    obtain ⟨rv, mc⟩ := rm
    simp only [hc] at h ⊢
    split at h
    case isFalse => cases h
    rename_i hq
    obtain ⟨hmc, hp, hall⟩ := hq
    cases h
    refine ⟨rfl, ?_, in_plain hp⟩
    rw [if_pos]
    refine ⟨hmc, hp, ?_⟩
    rw [List.all_eq_true] at hall ⊢
    intro id hid
    have := hall id hid
    rw [hm.same id (hord.2 id hid)]
    exact this
end Go.EX


set_option linter.unusedVariables false
set_option linter.unusedSimpArgs false
namespace Go.EX
theorem calm_congr {call : Calls'} {K : Nat → Prop} {x : XOp} (hc : calmOp x = true) {s t : St} (hm : Agree K s.mem t.mem) (he : ∀ n ∈ x.reads, t.env.get n = s.env.get n) (hk : ∀ n ∈ x.reads, In K (s.env.get n)) {r : AV} {s' : St} (h : exOp call s x = some (r, s')) :
    s' = s ∧ exOp call t x = some (r, t) ∧ In K r := by
  have hmap : ∀ {α : Type} (o : Option α) (f : α → AV), o.map (fun v => (f v, s)) = some (r, s') → (∀ v, o = some v → In K (f v)) → s' = s ∧ o.map (fun v => (f v, t)) = some (r, t) ∧ In K r := by
    intro α o f ho hf
    cases o with
    | none => cases ho
    | some v => cases ho; exact ⟨rfl, rfl, hf v rfl⟩
  have e1 : ∀ y, (∀ n ∈ srcTmp y, n ∈ x.reads) → t.env.ev y = s.env.ev y := fun y hy => ev_congr fun n hn => he n (hy n hn)
  have k1 : ∀ y, (∀ n ∈ srcTmp y, n ∈ x.reads) → In K (s.env.ev y) := fun y hy => in_ev fun n hn => hk n (hy n hn)
  have eO : ∀ y, (∀ n ∈ srcTmpO y, n ∈ x.reads) → y.map t.env.ev = y.map s.env.ev := fun y hy => evO_congr fun n hn => he n (hy n hn)
  cases x with
  | mv y =>
    have ky := k1 y (by simp [XOp.reads])
    simp only [exOp] at h ⊢
    rw [e1 y (by simp [XOp.reads])]
    cases h; exact ⟨rfl, rfl, ky⟩
  | load agg y =>
    have ky := k1 y (by simp [XOp.reads])
    simp only [exOp] at h ⊢
    rw [e1 y (by simp [XOp.reads]), load_agree hm ky]
    exact hmap _ _ h fun v hv => in_load hm ky hv
  | nilCheck y =>
    have ky := k1 y (by simp [XOp.reads])
    simp only [exOp] at h ⊢
    rw [e1 y (by simp [XOp.reads])]
    revert h; split <;> intro h <;> first | (cases h; done) | (cases h; exact ⟨rfl, rfl, ky⟩)
  | extract y i =>
    have ky := k1 y (by simp [XOp.reads])
    simp only [exOp] at h ⊢
    rw [e1 y (by simp [XOp.reads])]
    revert h; split <;> intro h <;> first | (cases h; done) | skip
    rename_i vs hv
    rw [hv] at ky
    exact hmap _ _ h fun v hv => (in_tup.1 ky).get hv
  | field off agg y =>
    have ky := k1 y (by simp [XOp.reads])
    simp only [exOp] at h ⊢
    rw [e1 y (by simp [XOp.reads])]
    revert h; split <;> intro h <;> first | (cases h; done) | skip
    rename_i cs hv
    rw [hv] at ky
    exact hmap _ _ h fun v hv => in_getCells (in_agg.1 ky) hv
  | fieldA off y =>
    have ky := k1 y (by simp [XOp.reads])
    simp only [exOp] at h ⊢
    rw [e1 y (by simp [XOp.reads])]
    revert h; split <;> intro h <;> first | (cases h; done) | skip
    · cases h; exact ⟨rfl, rfl, in_imm⟩
    · rename_i id o hv
      rw [hv] at ky
      cases h; exact ⟨rfl, rfl, in_optr.2 (in_optr.1 ky)⟩
  | eqNil _ _ y | un _ y | conv _ y | convS y | len y | lenS y | cap y =>
    simp only [exOp] at h ⊢
    rw [e1 y (by simp [XOp.reads])]
    first
      | exact hmap _ _ h fun _ _ => in_imm
      | (revert h; split <;> intro h <;> first | (cases h; done) | (cases h; exact ⟨rfl, rfl, in_imm⟩) | exact hmap _ _ h fun _ _ => in_imm)
  | idxP n sz y z =>
    have ky := k1 y (by simp [XOp.reads]; intros; simp [*])
    simp only [exOp] at h ⊢
    rw [e1 y (by simp [XOp.reads]; intros; simp [*]), e1 z (by simp [XOp.reads]; intros; simp [*])]
    split at h
    · cases h
    · split at h
      · rename_i hb
        split at h
        · cases h; refine ⟨rfl, ?_, in_imm⟩; simp only [*, and_self, if_true]
        · rename_i heq; cases h; rw [heq] at ky; refine ⟨rfl, ?_, in_optr.2 (in_optr.1 ky)⟩; simp only [*, and_self, if_true]
        · cases h
      · cases h
  | idxV n sz agg y z =>
    have ky := k1 y (by simp [XOp.reads]; intros; simp [*])
    simp only [exOp] at h ⊢
    rw [e1 y (by simp [XOp.reads]; intros; simp [*]), e1 z (by simp [XOp.reads]; intros; simp [*])]
    split at h
    · cases h
    · split at h
      · rename_i hb
        split at h
        · rename_i cs heq
          rw [heq] at ky
          simp only [hb, and_self, if_true]
          exact hmap _ _ h fun v hv => in_getCells (in_agg.1 ky) hv
        · cases h
      · cases h
  | strOf y =>
    have ky := k1 y (by simp [XOp.reads])
    simp only [exOp] at h ⊢
    rw [e1 y (by simp [XOp.reads]), strOf_agree hm ky]
    exact hmap _ _ h fun _ _ => in_imm
  | bytesOf y =>
    simp only [exOp] at h ⊢
    rw [e1 y (by simp [XOp.reads])]
    revert h; split <;> intro h <;> first | (cases h; done) | (cases h; exact ⟨rfl, rfl, in_imm⟩)
  | minmax mn y z =>
    simp only [exOp] at h ⊢
    rw [e1 y (by simp [XOp.reads]; intros; simp [*]), e1 z (by simp [XOp.reads]; intros; simp [*])]
    revert h; split <;> intro h <;> first | (cases h; done) | (cases h; exact ⟨rfl, rfl, in_imm⟩)
  | pick a b c =>
    have kb := k1 b (by simp [XOp.reads]; intros; simp [*])
    have kc := k1 c (by simp [XOp.reads]; intros; simp [*])
    simp only [exOp] at h ⊢
    rw [e1 a (by simp [XOp.reads]; intros; simp [*]), e1 b (by simp [XOp.reads]; intros; simp [*]), e1 c (by simp [XOp.reads]; intros; simp [*])]
    revert h; split <;> intro h <;> first | (cases h; done) | skip
    cases h
    refine ⟨rfl, rfl, ?_⟩
    split
    · exact kb
    · exact kc
  | bin _ y z | binB _ y z | eqCells _ _ y z | idxS y z =>
    simp only [exOp] at h ⊢
    rw [e1 y (by simp [XOp.reads]; intros; simp [*]), e1 z (by simp [XOp.reads]; intros; simp [*])]
    repeat' (first | exact hmap _ _ h fun _ _ => in_imm | (cases h; done) | (cases h; exact ⟨rfl, rfl, in_imm⟩) | (revert h; split <;> intro h))
  | idxA _ y z =>
    have ky := k1 y (by simp [XOp.reads]; intros; simp [*])
    simp only [exOp] at h ⊢
    rw [e1 y (by simp [XOp.reads]; intros; simp [*]), e1 z (by simp [XOp.reads]; intros; simp [*])]
    split at h
    · cases h
    · split at h
      · split at h
        · rename_i hb; cases h; refine ⟨rfl, ?_, in_imm⟩; simp only [*, and_self, if_true]
        · cases h
      · rename_i heq
        split at h
        · rename_i hb; cases h; rw [heq] at ky; refine ⟨rfl, ?_, in_optr.2 (in_osl.1 ky)⟩; simp only [*, and_self, if_true]
        · cases h
      · cases h
  | build zs ps =>
    simp only [exOp] at h ⊢
    rw [evP_congr (s := s.env) (t := t.env) (by simpa [XOp.reads] using he)]
    refine hmap _ _ h fun v hv => in_agg.2 (in_fill _ _ _ (in_imZ zs) (fun p hp => ?_) hv)
    obtain ⟨q, hq, rfl⟩ := List.mem_map.1 hp
    exact k1 q.2.2 fun n hn => by simp only [XOp.reads]; exact List.mem_flatMap.2 ⟨q, hq, hn⟩
  | slice sz y lo hi =>
    have ky := k1 y (by simp [XOp.reads]; intros; simp [*])
    simp only [exOp] at h ⊢
    rw [e1 y (by simp [XOp.reads]; intros; simp [*]), eO lo (by simp [XOp.reads]; intros; simp [*]), eO hi (by simp [XOp.reads]; intros; simp [*])]
    refine hmap _ _ h fun v hv => ?_
    generalize s.env.ev y = yv at hv ky
    unfold exSlice at hv
    split at hv
    · simp only [Option.map_eq_some_iff] at hv; obtain ⟨_, _, rfl⟩ := hv; exact in_imm
    · simp only [Option.map_eq_some_iff] at hv; obtain ⟨_, _, rfl⟩ := hv; exact in_imm
    · split at hv
      · simp only [Option.map_eq_some_iff] at hv; obtain ⟨_, _, rfl⟩ := hv; exact in_osl.2 (in_osl.1 ky)
      · cases hv
    · cases hv
  | slice3 sz y hi mx =>
    have ky := k1 y (by simp [XOp.reads]; intros; simp [*])
    simp only [exOp] at h ⊢
    rw [e1 y (by simp [XOp.reads]; intros; simp [*]), e1 hi (by simp [XOp.reads]; intros; simp [*]), e1 mx (by simp [XOp.reads]; intros; simp [*])]
    refine hmap _ _ h fun v hv => ?_
    generalize s.env.ev y = yv at hv ky
    unfold exSlice3 at hv
    split at hv
    · split at hv
      · split at hv
        · cases hv; exact in_imm
        · cases hv
      · split at hv
        · cases hv; exact in_imm
        · cases hv
      · split at hv
        · cases hv; exact in_osl.2 (in_osl.1 ky)
        · cases hv
      · cases hv
    · cases hv
  | sliceS y lo hi =>
    simp only [exOp] at h ⊢
    rw [e1 y (by simp [XOp.reads]; intros; simp [*]), eO lo (by simp [XOp.reads]; intros; simp [*]), eO hi (by simp [XOp.reads]; intros; simp [*])]
    revert h; split <;> intro h <;> first | (cases h; done) | exact hmap _ _ h fun _ _ => in_imm
  | mkClo _ l =>
    simp only [exOp] at h ⊢
    rw [evL_congr (s := s.env) (t := t.env) (by simpa [XOp.reads] using he)]
    cases h
    refine ⟨rfl, rfl, in_clo.2 fun x hx => ?_⟩
    obtain ⟨q, hq, rfl⟩ := List.mem_map.1 hx
    exact k1 q fun n hn => by simp only [XOp.reads]; exact List.mem_flatMap.2 ⟨q, hq, hn⟩
  | lookup kind zs agg y z ok =>
    have ky := k1 y (by simp [XOp.reads]; intros; simp [*])
    have kz := k1 z (by simp [XOp.reads]; intros; simp [*])
    simp only [exOp] at h ⊢
    rw [e1 y (by simp [XOp.reads]; intros; simp [*]), e1 z (by simp [XOp.reads]; intros; simp [*])]
    generalize s.env.ev y = yv at h ky ⊢
    generalize s.env.ev z = zv at h kz ⊢
    have kzero : In K (zeroAV zs agg) := by
      unfold zeroAV
      split
      · exact in_agg.2 (in_imZ zs)
      · split
        · exact in_imm
        · exact in_junk
    have kout : ∀ (v : AV) (b : Bool), In K v → In K (.tup [v, .imm (.val (.bool b))]) := fun v b hv => in_tup.2 fun x hx => by
      simp only [List.mem_cons, List.not_mem_nil, or_false] at hx
      rcases hx with rfl | rfl
      · exact hv
      · exact in_imm
    split at h
    · rename_i hik
      rw [if_pos hik]
      split at h
      · cases ok <;> cases h
        · exact ⟨rfl, rfl, kzero⟩
        · exact ⟨rfl, rfl, kout _ _ kzero⟩
      · rename_i id
        have hid := in_omap.1 ky
        simp only [hm.same id hid]
        split at h
        · rename_i es hes
          have hin := in_map hm hid hes
          rw [findK_agree hm kind kz es 0 fun p hp => (hin p hp).1]
          split at h
          · cases ok <;> cases h
            · exact ⟨rfl, rfl, kzero⟩
            · exact ⟨rfl, rfl, kout _ _ kzero⟩
          · rename_i i hi
            cases hp : es[i]? with
            | none => rw [hp] at h; cases h
            | some p =>
              rw [hp] at h
              have kp := (hin p (List.mem_of_getElem? hp)).2
              cases ok <;> cases h
              · exact ⟨rfl, rfl, kp⟩
              · exact ⟨rfl, rfl, kout _ _ kp⟩
          · cases h
        · cases h
      · cases h
    · cases h
  | lenM y =>
    have ky := k1 y (by simp [XOp.reads])
    simp only [exOp] at h ⊢
    rw [e1 y (by simp [XOp.reads])]
    generalize s.env.ev y = yv at h ky ⊢
    split at h
    · cases h; exact ⟨rfl, rfl, in_imm⟩
    · rename_i id
      simp only [hm.same id (in_omap.1 ky)]
      split at h
      · cases h; exact ⟨rfl, rfl, in_imm⟩
      · cases h
    · cases h
  | call mode fn l =>
    cases mode with
    | view =>
      simp only [exOp, exView] at h ⊢
      have hin : InL K (l.map s.env.ev) := fun x hx => by
        obtain ⟨q, hq, rfl⟩ := List.mem_map.1 hx
        exact k1 q fun n hn => by simp only [XOp.reads]; exact List.mem_flatMap.2 ⟨q, hq, hn⟩
      rw [evL_congr (s := s.env) (t := t.env) (by simpa [XOp.reads] using he), mapM_congr _ fun x hx => frz_agree hm x (hin x hx)]
      split at h
      · cases h
      · split at h
        · cases h
        · rename_i mc hcall
          split at h
          · rename_i hp
            cases h
            refine ⟨rfl, by simp only [hcall, hp, if_true], ?_⟩
            exact in_plain hp
          · rename_i hp
            split at h
            · rename_i hi
              simp only [hcall, hp, hi, Bool.false_eq_true, if_true, if_false]
              exact hmap _ _ h fun v hv => in_frz hv
            · cases h
    | own => cases hc
    | share => cases hc
    | look => cases hc
    | peek =>
      simp only [exOp] at h ⊢
      have hin : InL K (l.map s.env.ev) := fun x hx => by
        obtain ⟨q, hq, rfl⟩ := List.mem_map.1 hx
        exact k1 q fun n hn => by simp only [XOp.reads]; exact List.mem_flatMap.2 ⟨q, hq, hn⟩
      rw [evL_congr (s := s.env) (t := t.env) (by simpa [XOp.reads] using he)]
      exact peek_congr hm hin h
  | alloc | box | buildSlice | store | frz | append | appendK | makeSlice | copy | clear | callV | makeMap | mapSet => cases hc
end Go.EX


set_option linter.unusedVariables false
set_option linter.unusedSimpArgs false
namespace Go.EX
section
variable {num : Names} {P : Program}
theorem countP_one {p q : Nat → Bool} {i : Nat} (hp : p i = true) (hq : q i = false) (h : ∀ j, j ≠ i → q j = p j) : ∀ (l : List Nat), l.Nodup → (i ∈ l → l.countP q + 1 = l.countP p) ∧ (i ∉ l → l.countP q = l.countP p)
  | [], _ => ⟨fun h => absurd h (by simp), fun _ => rfl⟩
  | j :: l, hn => by
    obtain ⟨hj, hn⟩ := List.nodup_cons.1 hn
    obtain ⟨h1, h2⟩ := countP_one hp hq h l hn
    by_cases hji : j = i
    · subst hji
      refine ⟨fun _ => ?_, fun hh => absurd (List.mem_cons_self ..) hh⟩
      rw [List.countP_cons, List.countP_cons, hp, hq, h2 hj]; simp
    · refine ⟨fun hh => ?_, fun hh => ?_⟩
      · have : i ∈ l := by rcases List.mem_cons.1 hh with h | h; exact absurd h.symm hji; exact h
        rw [List.countP_cons, List.countP_cons, h j hji, ← h1 this]; omega
      · have : i ∉ l := fun hh' => hh (List.mem_cons_of_mem _ hh')
        rw [List.countP_cons, List.countP_cons, h j hji, h2 this]
def left (n : Nat) (listed : Array Bool) : Nat := (List.range n).countP fun i => !listed.getD i true
theorem left_set {n i : Nat} {listed : Array Bool} (hi : i < n) (hl : listed.getD i true = false) : left n (listed.setIfInBounds i true) + 1 = left n listed := by
  refine (countP_one (p := fun i => !listed.getD i true) (q := fun j => !(listed.setIfInBounds i true).getD j true) (i := i) (by simp [hl]) ?_ ?_ (List.range n) List.nodup_range).1 (List.mem_range.2 hi)
  · show (!(listed.setIfInBounds i true).getD i true) = false
    rw [Array.getD_eq_getD_getElem?, Array.getElem?_setIfInBounds]
    split <;> (try split) <;> simp_all
  · intro j hj
    show (!(listed.setIfInBounds i true).getD j true) = _
    rw [getD_set_ne true (Ne.symm hj)]
theorem exOps_split {call : Calls'} : ∀ (xs : List XO) (s s' : St), exOps call s xs = some s' → ∀ i, ∃ t, exOps call s (xs.take i) = some t ∧ exOps call t (xs.drop i) = some s'
  | [], s, s', h, i => ⟨s, by simp [exOps], by simpa using h⟩
  | x :: xs, s, s', h, 0 => ⟨s, rfl, h⟩
  | x :: xs, s, s', h, i + 1 => by
    simp only [exOps] at h
    cases hx : exOne call s x with
    | none => rw [hx] at h; cases h
    | some s1 =>
      rw [hx] at h
      obtain ⟨t, h1, h2⟩ := exOps_split xs s1 s' h i
      exact ⟨t, by simp only [List.take_succ_cons, exOps, hx, Option.bind_some, h1], by simpa using h2⟩
theorem exOps_snoc {call : Calls'} : ∀ (xs : List XO) (x : XO) (s t u : St), exOps call s xs = some t → exOps call s (xs ++ [x]) = some u → exOne call t x = some u
  | [], x, s, t, u, h, g => by
    cases h
    simp only [List.nil_append, exOps] at g
    cases hx : exOne call s x with
    | none => rw [hx] at g; cases g
    | some s1 => rw [hx] at g; cases g; rfl
  | y :: xs, x, s, t, u, h, g => by
    simp only [List.cons_append, exOps] at h g
    cases hx : exOne call s y with
    | none => rw [hx] at h; cases h
    | some s1 => rw [hx] at h g; exact exOps_snoc xs x s1 t u h g
theorem bind_get (s : St) (d : Option Nat) (v : AV) (t : Nat) : (s.bind d v).env.get t = if d = some t then v else s.env.get t := by
  cases d with
  | none => simp [St.bind]
  | some d =>
    simp only [St.bind, Env.get, Option.some.injEq]
    by_cases h : t = d
    · subst h; simp
    · rw [if_neg h, if_neg (fun h' => h h'.symm)]
theorem one_congr {call : Calls'} {K : Nat → Prop} {x : XO} (hc : (calmOp x.op || makeOp x.op) = true) {s t : St} (hm : Agree K s.mem t.mem) (he : ∀ n ∈ x.reads, t.env.get n = s.env.get n) (hk : ∀ n ∈ x.reads, In K (s.env.get n))
    (hb : ∀ fn l as r mc, x.op = .call .own fn l → (l.map s.env.ev).mapM (frz s.mem) = some as → call fn as [] = some (r, mc) → (∀ id ∈ r.refs, id < mc.length) ∧ ∀ o ∈ mc, ∀ id ∈ o.refs, id < mc.length) {s' : St} (h : exOne call s x = some s') :
    ∃ (len : Nat) (val : Nat → AV) (new : Nat → List AObj), Makes K len val new ∧ s' = ({ s with mem := s.mem ++ new s.mem.length } : St).bind x.dst (val s.mem.length) ∧ exOne call t x = some (({ t with mem := t.mem ++ new t.mem.length } : St).bind x.dst (val t.mem.length)) := by
  have r1 : ∀ n ∈ x.op.reads, n ∈ x.reads := fun n hn => List.mem_append.2 (.inl hn)
  have r2 : ∀ n ∈ x.op.needs, n ∈ x.reads := fun n hn => List.mem_append.2 (.inr (List.mem_append.2 (.inl hn)))
  have r3 : ∀ u b, x.guard = some (u, b) → u ∈ x.reads := fun u b hg => List.mem_append.2 (.inr (List.mem_append.2 (.inr (by simp [hg]))))
  have calm : ∀ v, In K v → Makes K 0 (fun _ => v) (fun _ => []) := fun v hv => ⟨fun _ => rfl, fun p id hid => .inl (hv id hid), fun p o ho => absurd ho (by simp), fun p q f _ h2 => ⟨ren_id fun id hid => h2 id (hv id hid), rfl⟩⟩
  have nil : ∀ (u : St), ({ u with mem := u.mem ++ [] } : St) = u := fun u => by cases u; simp
  rcases exOne_bind h with ⟨v, s1, hx, rfl, hg⟩ | ⟨rfl, u, b, hg, hcc⟩
  · have hop : ∃ (len : Nat) (val : Nat → AV) (new : Nat → List AObj), Makes K len val new ∧ v = val s.mem.length ∧ s1 = { s with mem := s.mem ++ new s.mem.length } ∧ exOp call t x.op = some (val t.mem.length, { t with mem := t.mem ++ new t.mem.length }) := by
      by_cases hcalm : calmOp x.op = true
      · obtain ⟨rfl, h2, h3⟩ := calm_congr hcalm hm (fun n hn => he n (r1 n hn)) (fun n hn => hk n (r1 n hn)) hx
        exact ⟨0, fun _ => v, fun _ => [], calm v h3, rfl, (nil _).symm, by rw [nil]; exact h2⟩
      · have hmake : makeOp x.op = true := by simpa [hcalm] using hc
        exact make_congr hmake hm (fun n hn => he n (r2 n hn)) (fun n hn => hk n (r2 n hn)) hb hx
    obtain ⟨len, val, new, h1, rfl, rfl, h4⟩ := hop
    refine ⟨len, val, new, h1, rfl, ?_⟩
    unfold exOne
    rcases hg with hg | ⟨u, b, hg, hcc⟩
    · simp only [hg, h4, Option.map_some]; cases x.dst <;> rfl
    · have : t.env.get u = .imm (.val (.bool b)) := by rw [he u (r3 u b hg)]; exact hcc
      simp only [hg, this, h4, Option.map_some, if_true]; cases x.dst <;> rfl
  · refine ⟨0, fun _ => .tup [], fun _ => [], calm (.tup []) (in_tup.2 fun y hy => by cases hy), by rw [nil], ?_⟩
    unfold exOne
    rcases hcc with ⟨c, hcc, hne⟩ | hcc
    · have : t.env.get u = .imm (.val (.bool c)) := by rw [he u (r3 u b hg)]; exact hcc
      simp only [hg, this, hne, if_false, nil]
      cases x.dst <;> rfl
    · have : t.env.get u = .tup [] := by rw [he u (r3 u b hg)]; exact hcc
      simp only [hg, this, nil]
      cases x.dst <;> rfl
theorem arep_lt {C : Cx} {x : AV} {v : Value} (h : ARep num C x v) : ∀ id ∈ x.refs, id < C.n := by
  induction h with
  | imm x v h => intro id hid; simp [AV.refs] at hid
  | osl id off sz len cap c a arr e hid _ _ _ _ _ => intro j hj; simp [AV.refs] at hj; rw [hj]; exact hid
  | optr id off hid => intro j hj; simp [AV.refs] at hj; rw [hj]; exact hid
  | omap id hid => intro j hj; simp [AV.refs] at hj; rw [hj]; exact hid
  | clo f caps vs hl h ih =>
    intro j hj
    simp only [AV.refs] at hj
    obtain ⟨x, hx, hj⟩ := refsL_mem.1 hj
    obtain ⟨i, hi⟩ := List.getElem?_of_mem hx
    have : i < vs.size := by rw [← hl]; exact (List.getElem?_eq_some_iff.1 hi).1
    exact ih i x vs[i] hi (by simp [this]) j hj
  | agg caps vs hl _ h ih =>
    intro j hj
    simp only [AV.refs] at hj
    obtain ⟨x, hx, hj⟩ := refsL_mem.1 hj
    obtain ⟨i, hi⟩ := List.getElem?_of_mem hx
    have : i < vs.size := by rw [← hl]; exact (List.getElem?_eq_some_iff.1 hi).1
    exact ih i x vs[i] hi (by simp [this]) j hj
  | tup caps vs hl h ih =>
    intro j hj
    simp only [AV.refs] at hj
    obtain ⟨x, hx, hj⟩ := refsL_mem.1 hj
    obtain ⟨i, hi⟩ := List.getElem?_of_mem hx
    have : i < vs.size := by rw [← hl]; exact (List.getElem?_eq_some_iff.1 hi).1
    exact ih i x vs[i] hi (by simp [this]) j hj
  | yld id hid => intro j hj; simp [AV.refs] at hj; subst hj; exact hid
  | junk v => intro id hid; simp [AV.refs] at hid
theorem orep_lt {C : Cx} {id : Nat} {o : AObj} (h : ORep num C id o) : ∀ j ∈ o.refs, j < C.n := by
  intro j hj
  cases o with
  | flat => simp [AObj.refs] at hj
  | rich cs =>
    obtain ⟨arr, e, _, h2⟩ := h
    simp only [AObj.refs] at hj
    obtain ⟨x, hx, hj⟩ := refsL_mem.1 hj
    obtain ⟨i, hi⟩ := List.getElem?_of_mem hx
    obtain ⟨u, _, _, hr⟩ := h2 i x hi
    exact arep_lt hr j hj
  | map es =>
    obtain ⟨es', clock, _, hl, h3⟩ := h
    simp only [AObj.refs, List.mem_append] at hj
    have one : ∀ (p : AV × AV), p ∈ es → (j ∈ p.1.refs ∨ j ∈ p.2.refs) → j < C.n := by
      intro p hp hj
      obtain ⟨i, hi⟩ := List.getElem?_of_mem hp
      have : i < es'.size := by rw [hl]; exact (List.getElem?_eq_some_iff.1 hi).1
      obtain ⟨g1, g2⟩ := h3 i p es'[i] hi (by simp [this])
      rcases hj with hj | hj
      · exact arep_lt g1 j hj
      · exact arep_lt g2 j hj
    rcases hj with hj | hj
    · obtain ⟨x, hx, hj⟩ := refsL_mem.1 hj
      obtain ⟨p, hp, rfl⟩ := List.mem_map.1 hx
      exact one p hp (.inl hj)
    · obtain ⟨x, hx, hj⟩ := refsL_mem.1 hj
      obtain ⟨p, hp, rfl⟩ := List.mem_map.1 hx
      exact one p hp (.inr hj)
  | dead => simp [AObj.refs] at hj
  | fix => simp [AObj.refs] at hj
  | loop env ps as b y =>
    obtain ⟨R, N, _, _, _, _, _, _, h7⟩ := h
    simp only [AObj.refs] at hj
    obtain ⟨p, hp, hj⟩ := env_roots_mem.1 hj
    exact arep_lt (h7 p hp) j hj
theorem own_bounded {call : Calls'} (hcall : CallOK num P call) {C : Cx} {s : St} {a : Act} (hs : SRep num C s a) {op : Op} {fn : Nat} {l : List Src} {as : List AV} {r : AV} {mc : Mem} (htr : trOp P num op = some (XOp.call .view fn l)) (has : (l.map s.env.ev).mapM (frz s.mem) = some as) (hc : call fn as [] = some (r, mc)) :
    (∀ id ∈ r.refs, id < mc.length) ∧ ∀ o ∈ mc, ∀ id ∈ o.refs, id < mc.length := by
  have : ∃ f args ats, op = .call ⟨.value (.func f), args, ats⟩ ∧ num f = fn ∧ args.toList.mapM (trSrc num) = some l := by
    have hm1 : ∀ {o : Operand} {g : Src → XOp}, (∀ y, g y ≠ .call .view fn l) → (trSrc num o).map g ≠ some (.call .view fn l) := by
      intro o g hg h
      cases ho : trSrc num o with
      | none => rw [ho] at h; cases h
      | some y => rw [ho] at h; exact hg y (Option.some.inj h)
    cases op with
    | call c =>
      obtain ⟨callee, args, ats⟩ := c
      simp only [trOp] at htr
      cases callee with
      | invoke => simp [trCall] at htr
      | builtin b =>
        simp only [trCall] at htr
        repeat' (first | (cases htr; done) | exact absurd htr (hm1 fun y hy => by cases hy) | split at htr)
      | value fo =>
        cases fo with
        | func f =>
          simp only [trCall, Option.map_eq_some_iff] at htr
          obtain ⟨ys, hy, hx⟩ := htr
          cases hx
          exact ⟨f, args, ats, rfl, rfl, hy⟩
        | _ =>
          simp only [trCall] at htr
          repeat' (first | (cases htr; done) | split at htr)
    | makeFunc f fi cs =>
      cases f <;> simp only [trOp] at htr <;> repeat' (first | (cases htr; done) | split at htr)
      simp only [Option.map_eq_some_iff] at htr
      obtain ⟨_, _, h⟩ := htr
      cases h
    | build t ps =>
      simp only [trOp] at htr
      repeat' (first | (cases htr; done) | (simp only [Option.map_eq_some_iff] at htr; obtain ⟨_, _, h⟩ := htr; cases h; done) | split at htr)
    | buildSlice t n ps =>
      simp only [trOp] at htr
      repeat' (first | (cases htr; done) | (simp only [Option.map_eq_some_iff] at htr; obtain ⟨_, _, h⟩ := htr; cases h; done) | split at htr)
    | slice t o lo hi mx =>
      cases mx <;> cases lo <;> cases hi <;> simp only [trOp] at htr <;> repeat' (first | (cases htr; done) | split at htr)
    | _ =>
      simp only [trOp] at htr
      repeat' (first | (cases htr; done) | exact absurd htr (hm1 fun y hy => by cases hy) | split at htr)
  obtain ⟨f, args, ats, rfl, rfl, hy⟩ := this
  obtain ⟨hl, hr⟩ := args_rep hs args.toList l hy
  obtain ⟨h1, h2⟩ := args_frz hs.mem has hl hr (C.view s.mem num) (fun _ h => h) rfl
  obtain ⟨_, hcs⟩ := hcall.fn f as [] r mc _ _ hc (view_rep hs.mem) h1 h2
  obtain ⟨e, w', fr, ⟨v, D, _, _, hst, hrv⟩, _⟩ := hcs []
  have hn := hst.rep.len
  refine ⟨fun id hid => by have := arep_lt hrv id hid; omega, fun o ho id hid => ?_⟩
  obtain ⟨i, hi⟩ := List.getElem?_of_mem ho
  have := orep_lt (hst.rep.obj i o hi) id hid
  omega
theorem trOps_all {call : Calls'} {N : Nat} {ops : Array Oper} : ∀ (l : List Oper) (xs : List XO) {s s' : St}, trOps P num N ops l = xs.map XO.wipe → exOps call s xs = some s' → ∀ (i : Nat) (o : Oper), l[i]? = some o → ∃ x : XO, xs[i]? = some x ∧ trOper P num N ops o = some x.wipe
  | [], _, _, _, _, _, i, o, ho => by simp at ho
  | o :: l, xs, s, s', htr, h, i, o', hi => by
    simp only [trOps] at htr
    cases ho : trOper P num N ops o with
    | none =>
      rw [ho] at htr
      cases xs with
      | nil => simp at htr
      | cons x r =>
        simp only [List.map_cons, List.cons.injEq] at htr
        have hb : x.wipe = badOp := htr.1.symm
        have h1 : x.op = .callV (.c (.bool true)) [] ∧ x.guard = none := by
          obtain ⟨d, op, g⟩ := x
          simp only [XO.wipe, badOp, XO.mk.injEq] at hb
          obtain ⟨_, h2, h3⟩ := hb
          refine ⟨?_, h3⟩
          cases op <;> simp only [XOp.wipe, reduceCtorEq] at h2
          exact h2
        simp only [exOps] at h
        unfold exOne at h
        simp only [h1.1, h1.2, exOp, Env.ev, Option.map_none, Option.bind_none] at h
        cases h
    | some y =>
      rw [ho] at htr
      cases xs with
      | nil => simp at htr
      | cons x r =>
        simp only [List.map_cons, List.cons.injEq] at htr
        simp only [exOps] at h
        cases hx : exOne call s x with
        | none => rw [hx] at h; cases h
        | some s1 =>
          rw [hx] at h
          cases i with
          | zero => simp at hi; subst hi; exact ⟨x, rfl, by rw [ho, htr.1]⟩
          | succ i => exact trOps_all l r htr.2 h i o' (by simpa using hi)
theorem trOps_of {N : Nat} {ops : Array Oper} : ∀ (l : List Oper) (xs : List XO), l.length = xs.length → (∀ (i : Nat) (o : Oper), l[i]? = some o → ∃ x : XO, xs[i]? = some x ∧ trOper P num N ops o = some x.wipe) → trOps P num N ops l = xs.map XO.wipe
  | [], xs, hl, _ => by cases xs with | nil => rfl | cons => cases hl
  | o :: l, xs, hl, h => by
    cases xs with
    | nil => cases hl
    | cons x r =>
      obtain ⟨y, hy, ho⟩ := h 0 o rfl
      simp at hy; subst hy
      simp only [trOps, ho, List.map_cons]
      rw [trOps_of l r (by simpa using hl) fun i o hi => h (i + 1) o (by simpa using hi)]
theorem headArr_of {m n : Nat} {listed : Array Bool} (hs : listed.size = m) (hn : n ≤ m) (h1 : ∀ i, i < n → listed.getD i true = true) (h2 : ∀ t, n ≤ t → t < m → listed.getD t true = false) : listed = headArr m n := by
  apply Array.ext
  · simp [headArr, hs]
  · intro i hi _
    have hi' : i < m := by omega
    have : listed[i] = listed.getD i true := by simp [hi]
    rw [this]
    by_cases hin : i < n
    · rw [h1 i hin]; simp [headArr, hin]
    · rw [h2 i (by omega) hi']; simp [headArr, hin]
theorem pick_step' {C : Cx} {m : Mem} (hm : MRep num C m) {k : Nat} {l : List Nat} (hn : l.Nodup) (hk : ∀ i, i < k → l[i]? = some i) (hkl : k ≤ l.length) : Step num k C m (C.pick l) (m.pickAll l) := by
  have hown : ∀ b, Own (C.pick l) (m.pickAll l) b → Own C m b := by
    intro b hb
    obtain ⟨id, o, _, ho, hl, hb⟩ := pick_own hb
    exact ⟨id, o, ho, hl, hb⟩
  refine ⟨pick_rep hm hn, rfl, rfl, rfl, Nat.le_refl _, fun _ _ _ => rfl, fun _ _ _ h => h, fun _ h => h, fun _ h => .inl h, fun b hb => .inr (hown b hb), fun i hi p hp hmv => ?_, by rw [Mem.pickAll, List.length_map]; exact hkl⟩
  obtain ⟨id, h3, rfl⟩ := pick_get hp
  rw [hk i hi] at h3
  cases h3
  rw [ren_moved] at hmv
  obtain ⟨o, ho, he⟩ := getD_moved hmv
  rw [he] at hmv
  exact ⟨o, ho, hmv, pick_σ (hk i hi)⟩
theorem pick_later {C : Cx} {s : St} {a : Act} (hs : SRep num C s a) {l : List Nat} (hn : l.Nodup) (hk : ∀ i, i < s.k → l[i]? = some i) (hkl : s.k ≤ l.length) : Later num s.k C s.mem a (C.pick l) { k := s.k, env := s.env.ren (place l), mem := s.mem.pickAll l } a := by
  have hst := pick_step' hs.mem hn hk hkl
  exact ⟨⟨hst.rep, hs.env.tr (pick_tr _), hst.len⟩, hst, rfl, rfl, fun _ _ h => h⟩
theorem room_later {C : Cx} {s : St} {a : Act} (hs : SRep num C s a) (d : Nat) : Later num s.k C s.mem a { C with n := C.n + d } { s with mem := s.mem ++ List.replicate d AObj.dead } a := by
  have hm := hs.mem
  have ht : Tr some C { C with n := C.n + d } := ⟨fun _ h => h, fun _ _ => rfl, fun id j hid hj => by cases hj; exact ⟨by show _ < C.n + d; omega, rfl, fun _ _ h => h⟩⟩
  have split : ∀ (i : Nat) (p : AObj), (s.mem ++ List.replicate d AObj.dead)[i]? = some p → s.mem[i]? = some p ∨ p = .dead := by
    intro i p hp
    rcases Nat.lt_or_ge i s.mem.length with h | h
    · rw [List.getElem?_append_left h] at hp; exact .inl hp
    · rw [List.getElem?_append_right h] at hp
      exact .inr (List.eq_of_mem_replicate (List.mem_of_getElem? hp))
  have hown : ∀ b, Own { C with n := C.n + d } (s.mem ++ List.replicate d AObj.dead) b → Own C s.mem b := by
    rintro b ⟨i, p, hp, hl, hb⟩
    rcases split i p hp with h | rfl
    · exact ⟨i, p, h, hl, hb⟩
    · cases hl
  have hk : s.k ≤ (s.mem ++ List.replicate d AObj.dead).length := by have := hs.k; simp; omega
  have hrep : MRep num { C with n := C.n + d } (s.mem ++ List.replicate d AObj.dead) := by
    refine ⟨by simp [hm.len], fun i p hp => ?_, fun i j p q hp hq hlp hlq he => ?_, fun b hb => hm.imm b (hown b hb), hm.bd, hm.glo⟩
    · rcases split i p hp with h | rfl
      · exact orep_mono ht rfl (fun _ h => h) (hm.obj i p h)
      · trivial
    · rcases split i p hp with h | rfl
      · rcases split j q hq with h' | rfl
        · exact hm.inj i j p q h h' hlp hlq he
        · cases hlq
      · cases hlp
  refine ⟨⟨hrep, hs.env.mono ht, hk⟩, ⟨hrep, rfl, rfl, rfl, Nat.le_refl _, fun _ _ _ => rfl, fun _ _ _ h => h, fun _ h => h, fun _ h => .inl h, fun b hb => .inr (hown b hb), fun i _ p hp hmv => ?_, hk⟩, rfl, rfl, fun _ _ h => h⟩
  rcases split i p hp with h | rfl
  · exact ⟨p, h, hmv, rfl⟩
  · cases hmv
structure Drawn (call : Calls') (P : Program) (num : Names) (N : Nat) (ops : Array Oper) (xs : List XO) (n : Nat) (s0 sF : St) (S : Nat → St) : Prop where
  len : xs.length = ops.size
  hn : n ≤ ops.size
  tr : ∀ (i : Nat) o, ops[i]? = some o → ∃ x : XO, xs[i]? = some x ∧ trOper P num N ops o = some x.wipe
  quiet : ∀ (i : Nat) x, i < n → xs[i]? = some x → (calmOp x.op || makeOp x.op) = true
  one : ∀ (i j : Nat) x y d, i < n → j < n → xs[i]? = some x → xs[j]? = some y → y.dst = some d → (i = j ∨ x.dst ≠ some d) ∧ (d ∈ x.reads → j < i ∧ Region.waitsFor .any ops i j = true)
  low : ∀ (i : Nat) o, i < n → ops[i]? = some o → ∀ e ∈ o.after, Region.binds .any e = true → e.on < i
  S0 : S 0 = s0
  go : ∀ (i : Nat) x, xs[i]? = some x → exOne call (S i) x = some (S (i + 1))
  fin : S xs.length = sF
  step : ∀ (i : Nat) x, i < n → xs[i]? = some x → exOne call (S i) x = some (S (i + 1))
  rest : exOps call (S n) (xs.drop n) = some sF
section
variable {call : Calls'} {N : Nat} {ops : Array Oper} {xs : List XO} {n : Nat} {s0 sF : St} {S : Nat → St}
def Live (S : Nat → St) (n : Nat) (listed : Array Bool) (id : Nat) : Prop := ∀ j, j < n → (S j).mem.length ≤ id → id < (S (j + 1)).mem.length → listed.getD j true = true
structure Part (xs : List XO) (n : Nat) (S : Nat → St) (listed : Array Bool) (t : St) : Prop where
  len : t.mem.length = (S n).mem.length
  k : t.k = (S 0).k
  k0 : (S 0).k ≤ (S 0).mem.length
  live : ∀ id, id < (S n).mem.length → Live S n listed id → t.mem[id]? = (S n).mem[id]?
  dead : ∀ id, id < (S n).mem.length → ¬ Live S n listed id → t.mem[id]? = some .dead
  done : ∀ (i : Nat) x u, i < n → xs[i]? = some x → x.dst = some u → listed.getD i true = true → t.env.get u = (S (i + 1)).env.get u ∧ ∀ id ∈ (t.env.get u).refs, Live S n listed id ∧ id < (S (i + 1)).mem.length
  not : ∀ u, (∀ (i : Nat) x, i < n → xs[i]? = some x → x.dst = some u → listed.getD i true = false) → t.env.get u = (S 0).env.get u ∧ ∀ id ∈ (t.env.get u).refs, id < (S 0).mem.length
  mem : ∀ (id : Nat) o, t.mem[id]? = some o → ∀ j ∈ o.refs, Live S n listed j ∧ ∀ i, i ≤ n → id < (S i).mem.length → j < (S i).mem.length
end
section
variable {call : Calls'} {N : Nat} {ops : Array Oper} {xs : List XO} {n : Nat} {s0 sF : St} {S : Nat → St}
theorem make_adds {x : XOp} (hc : makeOp x = true) {s s' : St} {r : AV} (h : exOp call s x = some (r, s')) : ∃ new, s' = { s with mem := s.mem ++ new } := by
  cases x with
  | alloc zs => cases h; exact ⟨_, rfl⟩
  | box n y =>
    simp only [exOp, Option.map_eq_some_iff] at h
    obtain ⟨cs, _, h⟩ := h
    cases h; exact ⟨_, rfl⟩
  | buildSlice sz zs len ps =>
    simp only [exOp, Option.map_eq_some_iff] at h
    obtain ⟨cs, _, h⟩ := h
    cases h; exact ⟨_, rfl⟩
  | makeSlice sz bytes zs l c =>
    simp only [exOp] at h
    split at h
    · split at h
      · cases h; exact ⟨_, rfl⟩
      · cases h
    · cases h
  | makeMap hint =>
    simp only [exOp] at h
    split at h
    · cases h; exact ⟨_, rfl⟩
    · split at h
      · cases h; exact ⟨_, rfl⟩
      · cases h
  | call mode fn l =>
    cases mode with
    | own =>
      simp only [exOp, exOwn] at h
      split at h
      · cases h
      · split at h
        · cases h
        · split at h
          · cases h; exact ⟨_, rfl⟩
          · cases h
    | look =>
      simp only [exOp, exLook] at h
      split at h
      · cases h
      · split at h
        · cases h; exact ⟨_, rfl⟩
        · cases h
    | view => cases hc
    | share => cases hc
    | peek => cases hc
  | _ => cases hc
theorem quiet_adds {x : XO} (hc : (calmOp x.op || makeOp x.op) = true) {s s' : St} (h : exOne call s x = some s') : ∃ new v, s' = ({ s with mem := s.mem ++ new } : St).bind x.dst v := by
  have nil : ∀ (u : St), ({ u with mem := u.mem ++ [] } : St) = u := fun u => by cases u; simp
  rcases exOne_bind h with ⟨v, s1, hx, rfl, hg⟩ | ⟨rfl, u, b, hg, hcc⟩
  · by_cases hcalm : calmOp x.op = true
    · obtain ⟨rfl, _, _⟩ := calm_congr (K := fun _ => True) hcalm (t := s) ⟨fun _ _ => rfl, fun _ _ _ _ _ _ => trivial⟩ (fun _ _ => rfl) (fun _ _ _ _ => trivial) hx
      exact ⟨[], v, by rw [nil]⟩
    · have hmake : makeOp x.op = true := by simpa [hcalm] using hc
      obtain ⟨new, rfl⟩ := make_adds hmake hx
      exact ⟨new, v, rfl⟩
  · exact ⟨[], .tup [], by rw [nil]⟩
theorem Drawn.add (d : Drawn call P num N ops xs n s0 sF S) {i : Nat} (hi : i < n) {x : XO} (hx : xs[i]? = some x) : ∃ new v, S (i + 1) = ({ S i with mem := (S i).mem ++ new } : St).bind x.dst v := quiet_adds (d.quiet i x hi hx) (d.step i x hi hx)
theorem Drawn.at (d : Drawn call P num N ops xs n s0 sF S) {i : Nat} (hi : i < n) : ∃ x, xs[i]? = some x := by
  have : i < xs.length := by have := d.hn; have := d.len; omega
  exact ⟨_, List.getElem?_eq_getElem this⟩
theorem Drawn.pre (d : Drawn call P num N ops xs n s0 sF S) (i : Nat) : ∀ j, i ≤ j → j ≤ n → (S i).mem.length ≤ (S j).mem.length ∧ (∀ id, id < (S i).mem.length → (S j).mem[id]? = (S i).mem[id]?) ∧ (S j).k = (S i).k := by
  intro j
  induction j with
  | zero => intro h _; have : i = 0 := by omega
            subst this; exact ⟨Nat.le_refl _, fun _ _ => rfl, rfl⟩
  | succ j ih =>
    intro hij hj
    by_cases hi : i = j + 1
    · subst hi; exact ⟨Nat.le_refl _, fun _ _ => rfl, rfl⟩
    · obtain ⟨h1, h2, h3⟩ := ih (by omega) (by omega)
      obtain ⟨x, hx⟩ := d.at (show j < n by omega)
      obtain ⟨new, v, he⟩ := d.add (show j < n by omega) hx
      rw [he, bind_mem, bind_k]
      refine ⟨by simp; omega, fun id hid => ?_, h3⟩
      rw [List.getElem?_append_left (by omega)]
      exact h2 id hid
theorem Drawn.get (d : Drawn call P num N ops xs n s0 sF S) (t : Nat) (i : Nat) : ∀ j, i ≤ j → j ≤ n → (∀ (k : Nat) x, i ≤ k → k < j → xs[k]? = some x → x.dst ≠ some t) → (S j).env.get t = (S i).env.get t := by
  intro j
  induction j with
  | zero => intro hij _ _; have : i = 0 := by omega
            subst this; rfl
  | succ j ih =>
    intro hij hj h
    by_cases hi : i = j + 1
    · subst hi; rfl
    · obtain ⟨x, hx⟩ := d.at (show j < n by omega)
      obtain ⟨new, v, he⟩ := d.add (show j < n by omega) hx
      rw [he, bind_get, if_neg (h j _ (by omega) (by omega) hx)]
      exact ih (by omega) (by omega) fun k x h1 h2 h3 => h k x h1 (by omega) h3
theorem ready_waits {listed : Array Bool} {i j : Nat} (h : i ∈ Region.ready .any ops listed) (hw : Region.waitsFor .any ops i j = true) : listed.getD j false = true := by
  obtain ⟨_, o, ho, hall⟩ := mem_ready.1 h
  obtain ⟨o', ho', e, he, hb, hon⟩ := Region.waitsFor_spec hw
  have : o' = o := Option.some.inj (ho'.symm.trans ho)
  subst this
  rw [← hon]
  exact hall e he hb
theorem getD_up {listed : Array Bool} {i : Nat} (h : listed.getD i false = true) : listed.getD i true = true := by
  rcases Nat.lt_or_ge i listed.size with h' | h'
  · simp [h'] at h ⊢; exact h
  · simp [Array.getElem?_eq_none h'] at h
def swapIn (M p len : Nat) : List Nat := (List.range M).map fun id => if p ≤ id ∧ id < p + len then M + (id - p) else id
theorem swapIn_get {M p len id : Nat} (h : id < M) : (swapIn M p len)[id]? = some (if p ≤ id ∧ id < p + len then M + (id - p) else id) := by
  simp [swapIn, h]
theorem swapIn_nodup (M p len : Nat) : (swapIn M p len).Nodup := by
  unfold swapIn
  refine List.pairwise_map.2 (List.Pairwise.imp_of_mem ?_ List.nodup_range)
  intro a b ha hb hab h
  have := List.mem_range.1 ha
  have := List.mem_range.1 hb
  split at h <;> split at h <;> omega
theorem swapIn_back {M p len j : Nat} (hj : j < len) (hp : p + len ≤ M) : place (swapIn M p len) (M + j) = some (p + j) := by
  refine place_of _ _ _ (swapIn_nodup ..) ?_
  rw [swapIn_get (by omega), if_pos ⟨by omega, by omega⟩]
  exact congrArg some (by omega)
theorem swapIn_stay {M p len id : Nat} (h : id < M) (hn : ¬ (p ≤ id ∧ id < p + len)) : place (swapIn M p len) id = some id := by
  refine place_of _ _ _ (swapIn_nodup ..) ?_
  rw [swapIn_get h, if_neg hn]
theorem Drawn.part_step (d : Drawn call P num N ops xs n s0 sF S) (hcall : CallOK num P call) {listed : Array Bool} {t : St} (p : Part xs n S listed t) {i : Nat} (hi : i < n) (hr : i ∈ Region.ready .any ops listed) {x : XO} (hx : xs[i]? = some x) {o : Oper} (htr : trOp P num o.op = some x.wipe.op) {C : Cx} {a : Act} (hs : SRep num C t a) :
    ∃ t1, exOne call t x = some t1 ∧ ∀ D a', SRep num D t1 a' → ∃ t2 E, E.w = D.w ∧ Later num t1.k D t1.mem a' E t2 a' ∧ Part xs n S (listed.setIfInBounds i true) t2 := by
  have hun : listed.getD i true = false := (mem_ready.1 hr).1
  have pre := fun (i j : Nat) (h1 : i ≤ j) (h2 : j ≤ n) => d.pre i j h1 h2
  have mono : ∀ i j, i ≤ j → j ≤ n → (S i).mem.length ≤ (S j).mem.length := fun i j h1 h2 => (pre i j h1 h2).1
  let K : Nat → Prop := fun id => id < (S i).mem.length ∧ Live S n listed id
  have live0 : ∀ id, id < (S 0).mem.length → Live S n listed id := fun id h j hj h1 _ => by have := mono 0 j (by omega) (by omega); omega
  have hAgree : Agree K (S i).mem t.mem := by
    have same : ∀ id, K id → t.mem[id]? = (S i).mem[id]? := fun id ⟨h1, h2⟩ => by
      have := mono i n (by omega) (Nat.le_refl _)
      rw [p.live id (by omega) h2]
      exact (pre i n (by omega) (Nat.le_refl _)).2.1 id h1
    refine ⟨same, fun id o' hk ho' j hj => ?_⟩
    obtain ⟨h1, h2⟩ := p.mem id o' (by rw [same id hk]; exact ho') j hj
    exact ⟨h2 i (by omega) hk.1, h1⟩
  have hreads : ∀ u ∈ x.reads, t.env.get u = (S i).env.get u ∧ In K ((S i).env.get u) := by
    intro u hu
    by_cases hw : ∃ (j : Nat) (y : XO), j < n ∧ xs[j]? = some y ∧ y.dst = some u
    · obtain ⟨j, y, hj, hy, hd⟩ := hw
      obtain ⟨h3, h4⟩ := (d.one i j x y u hi hj hx hy hd).2 hu
      obtain ⟨h5, h6⟩ := p.done j y u hj hy hd (getD_up (ready_waits hr h4))
      have h7 := d.get u (j + 1) i (by omega) (by omega) fun k z h5 h6 h7 => by
        rcases (d.one k j z y u (by omega) hj h7 hy hd).1 with h | h
        · omega
        · exact h
      have h8 : t.env.get u = (S i).env.get u := h5.trans h7.symm
      refine ⟨h8, fun id hid => ?_⟩
      rw [← h8] at hid
      obtain ⟨h9, h10⟩ := h6 id hid
      have := mono (j + 1) i (by omega) (by omega)
      exact ⟨by omega, h9⟩
    · have hno : ∀ (j : Nat) (y : XO), j < n → xs[j]? = some y → y.dst ≠ some u := fun j y h1 h2 h3 => hw ⟨j, y, h1, h2, h3⟩
      obtain ⟨h5, h6⟩ := p.not u fun j y h1 h2 h3 => absurd h3 (hno j y h1 h2)
      have h7 := d.get u 0 i (Nat.zero_le _) (by omega) fun k z _ h6 h7 => hno k z (by omega) h7
      have h8 : t.env.get u = (S i).env.get u := h5.trans h7.symm
      refine ⟨h8, fun id hid => ?_⟩
      rw [← h8] at hid
      have h9 := h6 id hid
      have := mono 0 i (by omega) (by omega)
      exact ⟨by omega, live0 id h9⟩
  have hb : ∀ fn l as r mc, x.op = .call .own fn l → (l.map (S i).env.ev).mapM (frz (S i).mem) = some as → call fn as [] = some (r, mc) → (∀ id ∈ r.refs, id < mc.length) ∧ ∀ o ∈ mc, ∀ id ∈ o.refs, id < mc.length := by
    intro fn l as r mc hop has hc
    have hsub : ∀ u ∈ l.flatMap srcTmp, u ∈ x.reads := fun u hu => List.mem_append.2 (.inr (List.mem_append.2 (.inl (by rw [hop]; exact hu))))
    have hin : InL K (l.map (S i).env.ev) := fun y hy => by
      obtain ⟨q, hq, rfl⟩ := List.mem_map.1 hy
      exact in_ev fun u hu => (hreads u (hsub u (List.mem_flatMap.2 ⟨q, hq, hu⟩))).2
    refine own_bounded hcall hs (op := o.op) (l := l) (fn := fn) (by rw [htr]; simp only [XO.wipe, hop, XOp.wipe]) (as := as) ?_ hc
    rw [evL_congr (s := (S i).env) (t := t.env) fun u hu => (hreads u (hsub u hu)).1, mapM_congr _ fun y hy => frz_agree hAgree y (hin y hy)]
    exact has
  obtain ⟨len, val, new, hmk, hS, ht1⟩ := one_congr (d.quiet i x hi hx) hAgree (fun u hu => (hreads u hu).1) (fun u hu => (hreads u hu).2) hb (d.step i x hi hx)
  refine ⟨_, ht1, fun D a' hD => ?_⟩
  have hlen := p.len
  rw [hlen] at hD ⊢
  generalize hM : (S n).mem.length = M at hD hlen ⊢
  have hpos1 : (S (i + 1)).mem.length = (S i).mem.length + len := by rw [hS, bind_mem]; simp [hmk.size]
  have hpM : (S i).mem.length + len ≤ M := by rw [← hpos1, ← hM]; exact mono (i + 1) n (by omega) (Nat.le_refl _)
  generalize hl : swapIn M (S i).mem.length len = l
  have hlget : ∀ id, id < M → l[id]? = some (if (S i).mem.length ≤ id ∧ id < (S i).mem.length + len then M + (id - (S i).mem.length) else id) := fun id h => by rw [← hl]; exact swapIn_get h
  have hllen : l.length = M := by rw [← hl]; simp [swapIn]
  have hlnd : l.Nodup := by rw [← hl]; exact swapIn_nodup ..
  generalize hf : place l = f
  have hf1 : ∀ j, j < len → f (M + j) = some ((S i).mem.length + j) := fun j hj => by rw [← hf, ← hl]; exact swapIn_back hj hpM
  have hf2 : ∀ id, id < M → ¬ ((S i).mem.length ≤ id ∧ id < (S i).mem.length + len) → f id = some id := fun id h1 h2 => by rw [← hf, ← hl]; exact swapIn_stay h1 h2
  have hnr : ∀ id, Live S n listed id → ¬ ((S i).mem.length ≤ id ∧ id < (S i).mem.length + len) := fun id h ⟨h1, h2⟩ => by
    have := h i hi h1 (by omega)
    rw [hun] at this; cases this
  have hf3 : ∀ id, Live S n listed id → id < M → f id = some id := fun id h1 h2 => hf2 id h2 (hnr id h1)
  have hiM : (S i).mem.length ≤ M := by omega
  obtain ⟨hv, hn⟩ := hmk.ren M (S i).mem.length f hf1 fun id hk => hf3 id hk.2 (by have := hk.1; omega)
  have h0i : (S 0).mem.length ≤ (S i).mem.length := mono 0 i (by omega) (by omega)
  have hk0 := p.k0
  have hkt := p.k
  have ht1k : (({ t with mem := t.mem ++ new M } : St).bind x.dst (val M)).k = (S 0).k := by rw [bind_k]; exact hkt
  have hlat := pick_later hD hlnd (fun j hj => by
    rw [ht1k] at hj
    rw [hlget j (by omega), if_neg (by omega)]) (by rw [ht1k, hllen]; omega)
  rw [hf] at hlat
  refine ⟨_, D.pick l, rfl, hlat, ?_⟩
  have hset : ∀ j, j ≠ i → (listed.setIfInBounds i true).getD j true = listed.getD j true := fun j hj => getD_set_ne true (Ne.symm hj)
  have hseti : (listed.setIfInBounds i true).getD i true = true := by
    rw [Array.getD_eq_getD_getElem?, Array.getElem?_setIfInBounds]
    split <;> (try split) <;> simp_all
  have up1 : ∀ id, Live S n listed id → Live S n (listed.setIfInBounds i true) id := fun id h j hj h1 h2 => by
    by_cases hji : j = i
    · subst hji; exact hseti
    · rw [hset j hji]; exact h j hj h1 h2
  have up2 : ∀ id, (S i).mem.length ≤ id → id < (S i).mem.length + len → Live S n (listed.setIfInBounds i true) id := fun id h1 h2 j hj h3 h4 => by
    by_cases hji : j = i
    · subst hji; exact hseti
    · exfalso
      rcases Nat.lt_or_ge j i with h | h
      · have := mono (j + 1) i (by omega) (by omega); omega
      · have := mono (i + 1) j (by omega) (by omega); omega
  have down : ∀ id, Live S n (listed.setIfInBounds i true) id → ¬ ((S i).mem.length ≤ id ∧ id < (S i).mem.length + len) → Live S n listed id := fun id h hno j hj h1 h2 => by
    by_cases hji : j = i
    · subst hji; exact absurd ⟨h1, by omega⟩ hno
    · rw [← hset j hji]; exact h j hj h1 h2
  have hnewM : (new M).length = len := hmk.size M
  have get1 : ∀ id, id < M → ¬ ((S i).mem.length ≤ id ∧ id < (S i).mem.length + len) → (Mem.pickAll (({ t with mem := t.mem ++ new M } : St).bind x.dst (val M)).mem l)[id]? = t.mem[id]? := by
    intro id hid hno
    rw [bind_mem, Mem.pickAll, List.getElem?_map, hlget id hid, if_neg hno]
    simp only [Option.map_some]
    rw [List.getElem?_append_left (by omega)]
    have hq : t.mem[id]? = some t.mem[id] := List.getElem?_eq_getElem (by omega)
    rw [hq]
    simp only [Option.getD_some, Option.some.injEq]
    rw [hf]
    refine obj_ren_id fun j hj => ?_
    obtain ⟨h1, h2⟩ := p.mem id _ hq j hj
    exact hf3 j h1 (by have := h2 n (Nat.le_refl _) (by omega); omega)
  have get2 : ∀ j, j < len → (Mem.pickAll (({ t with mem := t.mem ++ new M } : St).bind x.dst (val M)).mem l)[(S i).mem.length + j]? = (new (S i).mem.length)[j]? := by
    intro j hj
    rw [bind_mem, Mem.pickAll, List.getElem?_map, hlget _ (by omega), if_pos ⟨by omega, by omega⟩]
    simp only [Option.map_some]
    rw [show M + ((S i).mem.length + j - (S i).mem.length) = M + j by omega, List.getElem?_append_right (by omega), show M + j - t.mem.length = j by omega]
    rw [← hn, List.getElem?_map, hf]
    have hq : (new M)[j]? = some (new M)[j] := List.getElem?_eq_getElem (by omega)
    rw [hq]; rfl
  have new_get : ∀ j, j < len → (new (S i).mem.length)[j]? = (S n).mem[(S i).mem.length + j]? := by
    intro j hj
    rw [(pre (i + 1) n (by omega) (Nat.le_refl _)).2.1 _ (by omega), hS, bind_mem, List.getElem?_append_right (by omega), show (S i).mem.length + j - (S i).mem.length = j by omega]
  have envKeep : ∀ u, (∀ id ∈ (t.env.get u).refs, Live S n listed id ∧ id < M) → (t.env.get u).ren f = t.env.get u := fun u h => ren_id fun id hid => hf3 id (h id hid).1 (h id hid).2
  refine ⟨?_, ht1k, hk0, fun id hid hlv => ?_, fun id hid hno => ?_, fun j y u hj hy hd hlj => ?_, fun u hu => ?_, fun id o' ho' j hj => ?_⟩
  · show (Mem.pickAll _ l).length = _
    rw [Mem.pickAll, List.length_map, hllen, hM]
  · rw [hM] at hid
    by_cases hin : (S i).mem.length ≤ id ∧ id < (S i).mem.length + len
    · show (Mem.pickAll _ l)[id]? = _
      have h1 := get2 (id - (S i).mem.length) (by omega)
      have h2 := new_get (id - (S i).mem.length) (by omega)
      rw [show (S i).mem.length + (id - (S i).mem.length) = id by omega] at h1 h2
      exact h1.trans h2
    · exact (get1 id hid hin).trans (p.live id (by omega) (down id hlv hin))
  · rw [hM] at hid
    have hin : ¬ ((S i).mem.length ≤ id ∧ id < (S i).mem.length + len) := fun h => hno (up2 id h.1 h.2)
    exact (get1 id hid hin).trans (p.dead id (by omega) fun h => hno (up1 id h))
  · have heq : ∀ v, (Env.ren f (({ t with mem := t.mem ++ new M } : St).bind x.dst (val M)).env).get u = v ↔ (if x.dst = some u then val M else t.env.get u).ren f = v := fun v => by rw [env_ren_get, bind_get]
    show (Env.ren f _).get u = _ ∧ _
    by_cases hji : j = i
    · subst hji
      have : y = x := Option.some.inj (hy.symm.trans hx)
      subst this
      have h1 : (Env.ren f (({ t with mem := t.mem ++ new M } : St).bind y.dst (val M)).env).get u = val (S j).mem.length := by
        rw [heq, if_pos hd]; exact hv
      refine ⟨h1.trans (by rw [hS, bind_get, if_pos hd]), fun id hid => ?_⟩
      have hid' : id ∈ (val (S j).mem.length).refs := by rw [← h1]; exact hid
      rcases hmk.inV _ id hid' with h | h
      · exact ⟨up1 id h.2, by have := h.1; omega⟩
      · exact ⟨up2 id h.1 h.2, by omega⟩
    · have hne : x.dst ≠ some u := by
        rcases (d.one i j x y u hi hj hx hy hd).1 with h | h
        · exact absurd h.symm hji
        · exact h
      obtain ⟨h2, h3⟩ := p.done j y u hj hy hd (by rw [← hset j hji]; exact hlj)
      have h1 : (Env.ren f (({ t with mem := t.mem ++ new M } : St).bind x.dst (val M)).env).get u = t.env.get u := by
        rw [heq, if_neg hne]
        exact envKeep u fun id hid => ⟨(h3 id hid).1, by have := (h3 id hid).2; have := mono (j + 1) n (by omega) (Nat.le_refl _); omega⟩
      refine ⟨h1.trans h2, fun id hid => ?_⟩
      have hid' : id ∈ (t.env.get u).refs := by rw [← h1]; exact hid
      exact ⟨up1 id (h3 id hid').1, (h3 id hid').2⟩
  · have hne : x.dst ≠ some u := fun h => by
      have := hu i x hi hx h
      rw [hseti] at this; cases this
    obtain ⟨h2, h3⟩ := p.not u fun j y h3 h4 h5 => by
      have hji : j ≠ i := fun h => by
        subst h
        have : y = x := Option.some.inj (h4.symm.trans hx)
        subst this
        exact hne h5
      rw [← hset j hji]
      exact hu j y h3 h4 h5
    have h1 : (Env.ren f (({ t with mem := t.mem ++ new M } : St).bind x.dst (val M)).env).get u = t.env.get u := by
      rw [env_ren_get, bind_get, if_neg hne]
      exact envKeep u fun id hid => ⟨live0 id (h3 id hid), by have := h3 id hid; omega⟩
    exact ⟨h1.trans h2, fun id hid => h3 id (by rw [← h1]; exact hid)⟩
  · have hid : id < M := by
      have h1 : id < (Mem.pickAll (({ t with mem := t.mem ++ new M } : St).bind x.dst (val M)).mem l).length := (List.getElem?_eq_some_iff.1 ho').1
      have h2 : (Mem.pickAll (({ t with mem := t.mem ++ new M } : St).bind x.dst (val M)).mem l).length = M := by rw [Mem.pickAll, List.length_map, hllen]
      omega
    by_cases hin : (S i).mem.length ≤ id ∧ id < (S i).mem.length + len
    · have h1 := get2 (id - (S i).mem.length) (by omega)
      rw [show (S i).mem.length + (id - (S i).mem.length) = id by omega] at h1
      have hmem : o' ∈ new (S i).mem.length := List.mem_of_getElem? (h1.symm.trans ho')
      rcases hmk.inN _ o' hmem j hj with h | h
      · exact ⟨up1 j h.2, fun i' _ h2 => by have := h.1; omega⟩
      · refine ⟨up2 j h.1 h.2, fun i' hi' h2 => ?_⟩
        rcases Nat.lt_or_ge i i' with h3 | h3
        · have := mono (i + 1) i' (by omega) hi'; omega
        · have := mono i' i h3 (by omega); omega
    · obtain ⟨h1, h2⟩ := p.mem id o' ((get1 id hid hin).symm.trans ho') j hj
      exact ⟨up1 j h1, h2⟩
theorem Drawn.ready_some (d : Drawn call P num N ops xs n s0 sF S) {listed : Array Bool} (hsz : listed.size = ops.size) (hl : left n listed ≠ 0) : Region.ready .any ops listed ≠ [] := by
  have hex : ∃ i, i < n ∧ listed.getD i true = false := by
    obtain ⟨i, hi, h⟩ := List.countP_pos_iff.1 (Nat.pos_of_ne_zero hl)
    exact ⟨i, List.mem_range.1 hi, by simpa using h⟩
  have : ∃ i, (i < n ∧ listed.getD i true = false) ∧ ∀ j, j < i → ¬ (j < n ∧ listed.getD j true = false) := by
    obtain ⟨i, hi⟩ := hex
    induction i using Nat.strongRecOn with
    | _ i ih =>
      by_cases h : ∃ j, j < i ∧ (j < n ∧ listed.getD j true = false)
      · obtain ⟨j, h1, h2⟩ := h; exact ih j h1 h2
      · exact ⟨i, hi, fun j hj h' => h ⟨j, hj, h'⟩⟩
  obtain ⟨i, ⟨hi, hl⟩, hmin⟩ := this
  have hlt : i < ops.size := by have := d.hn; omega
  have ho : ops[i]? = some ops[i] := Array.getElem?_eq_getElem hlt
  have : i ∈ Region.ready .any ops listed := by
    refine mem_ready.2 ⟨hl, _, ho, fun e he hb => ?_⟩
    have h1 := d.low i _ hi ho e he hb
    have h2 : listed.getD e.on true = true := by
      cases h3 : listed.getD e.on true with
      | true => rfl
      | false => exact absurd ⟨by omega, h3⟩ (hmin e.on h1)
    have h4 : e.on < listed.size := by omega
    simp [h4] at h2 ⊢; exact h2
  intro h
  rw [h] at this; cases this
theorem Drawn.all (d : Drawn call P num N ops xs n s0 sF S) {listed : Array Bool} {t : St} (p : Part xs n S listed t) (hall : ∀ i, i < n → listed.getD i true = true) : t.mem = (S n).mem ∧ (∀ u, t.env.get u = (S n).env.get u) ∧ t.k = (S n).k := by
  refine ⟨List.ext_getElem? fun id => ?_, fun u => ?_, p.k.trans (d.pre 0 n (Nat.zero_le _) (Nat.le_refl _)).2.2.symm⟩
  · rcases Nat.lt_or_ge id (S n).mem.length with h | h
    · exact p.live id h fun j hj _ _ => hall j hj
    · rw [List.getElem?_eq_none h, List.getElem?_eq_none (by rw [p.len]; exact h)]
  · by_cases hw : ∃ (j : Nat) (y : XO), j < n ∧ xs[j]? = some y ∧ y.dst = some u
    · obtain ⟨j, y, hj, hy, hd⟩ := hw
      rw [(p.done j y u hj hy hd (hall j hj)).1]
      exact (d.get u (j + 1) n (by omega) (Nat.le_refl _) fun k z h5 h6 h7 => by
        rcases (d.one k j z y u h6 hj h7 hy hd).1 with h | h
        · omega
        · exact h).symm
    · rw [(p.not u fun j y h1 h2 h3 => absurd ⟨j, y, h1, h2, h3⟩ hw).1]
      exact (d.get u 0 n (Nat.zero_le _) (Nat.le_refl _) fun k z _ h6 h7 h8 => hw ⟨k, z, h6, h7, h8⟩).symm
theorem Drawn.any {ro : Option Nat} (d : Drawn call P num N ops xs n s0 sF S) (htail : n = ops.size ∨ (n < ops.size ∧ Region.sinkB .any ops n = true ∧ Region.chainB .any ops n = true)) (hseq : Region.seqB .any ops (ops.size - n) n (headArr ops.size n) = true) (hcall : CallOK num P call) {Q : Exit → Act → World → Prop} {k : Nat} {C : Cx} {m : Mem} {a0 : Act} (hN : N ≤ a0.tmps.size) (hQ : ∀ D a', Later num k C m a0 D sF a' → Q .normal a' D.w) :
    ∀ (c : Nat) (listed : Array Bool) (a : Act) (D : Cx) (t : St), left n listed = c → HeadInv .any ops n listed → Part xs n S listed t → Later num k C m a0 D t a → wpAnyIn (fz ro) 0 P .any ops Q (c + (ops.size - n)) listed a D.w := by
  intro c
  induction c with
  | zero =>
    intro listed a D t hl inv p hlat
    rw [Nat.zero_add]
    have hall : ∀ i, i < n → listed.getD i true = true := by
      intro i hi
      cases h : listed.getD i true with
      | true => rfl
      | false =>
        have := List.countP_eq_zero.1 hl i (List.mem_range.2 hi)
        simp [h] at this
    have hhead := headArr_of inv.size d.hn hall inv.tail
    have hdl : (ops.toList.drop n).length = ops.size - n := by simp
    obtain ⟨h1, h2, h3⟩ := d.all p hall
    have hSn : Later num k C m a0 D (S n) a :=
      ⟨⟨by rw [← h1]; exact hlat.rep.mem, fun u => by rw [← h2]; exact hlat.rep.env u, by rw [← h1, ← h3]; exact hlat.rep.k⟩, by rw [← h1]; exact hlat.step, by rw [← h3]; exact hlat.k, hlat.size, hlat.marks⟩
    have htr : trOps P num N ops (ops.toList.drop n) = (xs.drop n).map XO.wipe := by
      refine trOps_of _ _ (by simp [d.len]) fun i o hi => ?_
      rw [List.getElem?_drop] at hi
      obtain ⟨x, hx, h⟩ := d.tr (n + i) o (by simpa using hi)
      exact ⟨x, by rw [List.getElem?_drop]; exact hx, h⟩
    have hw := list_wp (ro := ro) hcall (Q := Q) (ops.toList.drop n) (xs.drop n) htr hSn.rep (by rw [hSn.size]; exact hN) d.rest fun E a'' hl' => hQ E a'' (hSn.trans (by rw [hSn.k] at hl'; exact hl'))
    have := wpAnyIn_of_seq (md := .any) (Q' := Q) (ops.toList.drop n) n listed a D.w (fun j => by simp [List.getElem?_drop]) (by rw [hdl, hhead]; exact hseq) hw
    rwa [hdl] at this
  | succ c ih =>
    intro listed a D t hl inv p hlat
    rw [show c + 1 + (ops.size - n) = (c + (ops.size - n)) + 1 by omega]
    refine ⟨fun h => absurd h (d.ready_some inv.size (by omega)), fun i hi => ?_⟩
    obtain ⟨hun, oi, hoi, _⟩ := mem_ready.1 hi
    have hisz : i < ops.size := (Array.getElem?_eq_some_iff.1 hoi).1
    have hin : i < n := by
      rcases htail with h | ⟨h1, h2, h3⟩
      · omega
      · rcases Nat.lt_or_ge i n with h | h
        · exact h
        · obtain ⟨j, hj, h4⟩ := List.countP_pos_iff.1 (show 0 < left n listed by omega)
          exact absurd hi (tail_waits h2 h3 h1 inv _ j rfl (List.mem_range.1 hj) (by simpa using h4) i h)
    obtain ⟨x, hx, htr⟩ := d.tr i oi hoi
    obtain ⟨t1, h1, hnext⟩ := d.part_step hcall p hin hi hx (trOper_spec htr).1 hlat.rep
    unfold wpOpIn
    simp only [hoi]
    refine one_wp hcall htr hlat.rep (by rw [hlat.size]; exact hN) h1 fun E a' hl' => ?_
    obtain ⟨t2, F, hw, hl2, p2⟩ := hnext E a' hl'.rep
    rw [← hw]
    refine ih _ a' F t2 (by have := left_set hin hun; omega) (inv.set hi hin) p2 ?_
    rw [hlat.k] at hl'
    rw [hl'.k] at hl2
    exact (hlat.trans hl').trans hl2
theorem Drawn.owner (d : Drawn call P num N ops xs n s0 sF S) {id : Nat} (h0 : (S 0).mem.length ≤ id) : ∀ m, m ≤ n → id < (S m).mem.length → ∃ j, j < m ∧ (S j).mem.length ≤ id ∧ id < (S (j + 1)).mem.length := by
  intro m
  induction m with
  | zero => intro _ h; omega
  | succ m ih =>
    intro hm h
    rcases Nat.lt_or_ge id (S m).mem.length with h1 | h1
    · obtain ⟨j, h2, h3⟩ := ih (by omega) h1
      exact ⟨j, by omega, h3⟩
    · exact ⟨m, by omega, h1, h⟩
theorem Drawn.start (d : Drawn call P num N ops xs n s0 sF S) {C : Cx} {a : Act} (hs : SRep num C s0 a) : Part xs n S (Array.replicate ops.size false) { s0 with mem := s0.mem ++ List.replicate ((S n).mem.length - s0.mem.length) AObj.dead } := by
  have hpre := d.pre 0 n (Nat.zero_le _) (Nat.le_refl _)
  have hS0 := d.S0
  have hn := hs.mem.len
  have hfalse : ∀ j, j < n → (Array.replicate ops.size false).getD j true = false := fun j hj => by
    have hlt : j < ops.size := by have := d.hn; omega
    simp [hlt]
  have live0 : ∀ id, id < (S 0).mem.length → Live S n (Array.replicate ops.size false) id := fun id h j hj h1 _ => by have := (d.pre 0 j (by omega) (by omega)).1; omega
  have hb : (S 0).mem.length = s0.mem.length := by rw [hS0]
  refine ⟨by simp; omega, by rw [hS0], by rw [hS0]; exact hs.k, fun id hid hlv => ?_, fun id hid hno => ?_, fun i x u hi hx hd hl => ?_, fun u _ => ?_, fun id o ho j hj => ?_⟩
  · rcases Nat.lt_or_ge id (S 0).mem.length with h | h
    · rw [hpre.2.1 id h, hS0]
      exact List.getElem?_append_left (by omega)
    · obtain ⟨j, hj, h1, h2⟩ := d.owner h n (Nat.le_refl _) hid
      have := hlv j hj h1 h2
      rw [hfalse j hj] at this; cases this
  · have h : (S 0).mem.length ≤ id := Nat.le_of_not_lt fun h => hno (live0 id h)
    show (s0.mem ++ _)[id]? = _
    rw [List.getElem?_append_right (by omega), List.getElem?_replicate, if_pos (by omega)]
  · rw [hfalse i hi] at hl; cases hl
  · rw [hS0]
    exact ⟨rfl, fun id hid => by have := arep_lt (hs.env u) id hid; omega⟩
  · have hsp : s0.mem[id]? = some o ∨ o = .dead := by
      rcases Nat.lt_or_ge id s0.mem.length with h | h
      · left; rw [← ho]; exact (List.getElem?_append_left h).symm
      · right
        have ho' : (s0.mem ++ List.replicate ((S n).mem.length - s0.mem.length) AObj.dead)[id]? = some o := ho
        rw [List.getElem?_append_right h] at ho'
        exact List.eq_of_mem_replicate (List.mem_of_getElem? ho')
    rcases hsp with h | rfl
    · have hjl := orep_lt (hs.mem.obj id o h) j hj
      exact ⟨live0 j (by omega), fun i hi _ => by have := (d.pre 0 i (by omega) hi).1; omega⟩
    · simp [AObj.refs] at hj
end
theorem drawn_of {call : Calls'} {N : Nat} {ops : Array Oper} {xs : List XO} {n : Nat} {s0 sF : St} (htr : trOps P num N ops ops.toList = xs.map XO.wipe) (hlen : xs.length = ops.size) (h1 : (xs.take n).all (fun x => calmOp x.op || makeOp x.op) = true)
    (h2 : ((List.range n).all fun i => (List.range n).all fun j => match xs[i]?, xs[j]? with
    | some x, some y => match y.dst with
      | none => true
      | some d => (i == j || x.dst != some d) && (!x.reads.contains d || (decide (j < i) && Region.waitsFor .any ops i j))
    | _, _ => false) = true)
    (h3 : ((List.range n).all fun i => match ops[i]? with
    | some o => o.after.all fun e => !Region.binds .any e || decide (e.on < i)
    | none => false) = true) (hn : n ≤ ops.size) (h : exOps call s0 xs = some sF) : ∃ S, Drawn call P num N ops xs n s0 sF S := by
  have hS : ∀ i, ∃ t, exOps call s0 (xs.take i) = some t ∧ exOps call t (xs.drop i) = some sF := exOps_split xs s0 sF h
  obtain ⟨S, hS⟩ : ∃ S : Nat → St, ∀ i, exOps call s0 (xs.take i) = some (S i) ∧ exOps call (S i) (xs.drop i) = some sF := ⟨fun i => Classical.choose (hS i), fun i => Classical.choose_spec (hS i)⟩
  have go : ∀ (i : Nat) x, xs[i]? = some x → exOne call (S i) x = some (S (i + 1)) := by
    intro i x hx
    have e1 := (hS i).1
    have e2 := (hS (i + 1)).1
    have : xs.take (i + 1) = xs.take i ++ [x] := by
      rw [List.take_add_one, hx]; rfl
    rw [this] at e2
    exact exOps_snoc _ x s0 _ _ e1 e2
  refine ⟨S, hlen, hn, fun i o ho => trOps_all ops.toList xs htr h i o (by simpa using ho), ?_, ?_, ?_, ?_, go, ?_, fun i x _ hx => go i x hx, ?_⟩
  · intro i x hi hx
    refine List.all_eq_true.1 h1 x (List.mem_of_getElem? (i := i) ?_)
    rw [List.getElem?_take, if_pos hi]; exact hx
  · intro i j x y d hi hj hx hy hyd
    have := List.all_eq_true.1 (List.all_eq_true.1 h2 i (List.mem_range.2 hi)) j (List.mem_range.2 hj)
    simp only [hx, hy, hyd, Bool.and_eq_true, Bool.or_eq_true, beq_iff_eq, bne_iff_ne, Bool.not_eq_true', List.contains_eq_mem, decide_eq_false_iff_not, decide_eq_true_eq] at this
    refine ⟨this.1, fun hr => ?_⟩
    rcases this.2 with h | h
    · exact absurd hr h
    · exact h
  · intro i o hi ho e he hb
    have := List.all_eq_true.1 h3 i (List.mem_range.2 hi)
    simp only [ho] at this
    have := Array.all_eq_true_iff_forall_mem.1 this e he
    simpa [hb] using this
  · have := (hS 0).1
    simp [exOps] at this
    exact this.symm
  · have := (hS xs.length).2
    simp [exOps] at this
    exact this
  · exact (hS n).2
def Cx.draw (C : Cx) : Cx := { C with w := { C.w with drawn := C.w.drawn + 1 } }
theorem draw_tr (C : Cx) : Tr some C C.draw := ⟨fun _ h => h, fun _ _ => rfl, fun id j hid hj => by cases hj; exact ⟨hid, rfl, fun _ _ h => h⟩⟩
theorem draw_rep {C : Cx} {m : Mem} (h : MRep num C m) : MRep num C.draw m :=
  ⟨h.len, fun id o ho => orep_mono (draw_tr C) rfl (fun _ hx => hx) (h.obj id o ho), h.inj, h.imm, h.bd, num.up h.glo (draw_tr C).imm (draw_tr C).keep⟩
theorem draw_later {C : Cx} {s : St} {a : Act} (hs : SRep num C s a) : Later num s.k C s.mem a C.draw s a := by
  refine ⟨⟨draw_rep hs.mem, hs.env.mono (draw_tr C), hs.k⟩, ⟨draw_rep hs.mem, rfl, rfl, rfl, Nat.le_refl _, fun _ _ _ => rfl, fun _ _ _ h => h, fun _ h => h, fun _ h => .inl h, fun _ h => .inr h, fun i _ o' ho hm => ⟨o', ho, hm, rfl⟩, hs.k⟩, rfl, rfl, fun _ _ h => h⟩
theorem replicate_left (n m : Nat) (h : n ≤ m) : left n (Array.replicate m false) = n := by
  unfold left
  rw [List.countP_eq_length.2]
  · simp
  · intro i hi
    have := List.mem_range.1 hi
    have h' : i < m := by omega
    simp [h']
end
end Go.EX


set_option linter.unusedVariables false
set_option linter.unusedSimpArgs false
namespace Go.EX
theorem append_env {s : St} {sz bytes : Nat} {a x r : AV} {s' : St} (h : exAppend s sz bytes a x = some (r, s')) :
    ∃ f : Nat → Option Nat, s'.env = s.env.ren f ∧ s'.k = s.k ∧ ∀ e : Env, exAppend { s with env := e } sz bytes a x = some (r, { s' with env := e.ren f }) := by
  unfold exAppend at h
  cases hel : elems s.mem sz x with
  | none => simp [hel] at h
  | some nn =>
    obtain ⟨n, news⟩ := nn
    simp only [hel] at h
    split at h
    · split at h
      · cases h
        refine ⟨some, (env_ren_some _).symm, rfl, fun e => ?_⟩
        simp [exAppend, hel, env_ren_some, *]
      · split at h
        · simp only [fresh, Option.some.injEq, Prod.mk.injEq] at h
          obtain ⟨rfl, rfl⟩ := h
          refine ⟨some, (env_ren_some _).symm, rfl, fun e => ?_⟩
          simp [exAppend, hel, env_ren_some, fresh, *]
        · cases h
    · split at h
      · cases h
        refine ⟨some, (env_ren_some _).symm, rfl, fun e => ?_⟩
        simp [exAppend, hel, env_ren_some, *]
      · split at h
        · cases h
        · split at h
          · split at h
            · simp only [fresh, Option.some.injEq, Prod.mk.injEq] at h
              obtain ⟨rfl, rfl⟩ := h
              refine ⟨some, (env_ren_some _).symm, rfl, fun e => ?_⟩
              simp [exAppend, hel, env_ren_some, fresh, *]
            · cases h
          · cases h
    · split at h
      · split at h
        · split at h
          · split at h
            · simp only [Option.some.injEq, Prod.mk.injEq] at h
              obtain ⟨rfl, rfl⟩ := h
              refine ⟨some, (env_ren_some _).symm, rfl, fun e => ?_⟩
              simp [exAppend, hel, env_ren_some, fresh, *]
            · cases h
          · split at h
            · split at h
              · simp only [fresh, Option.some.injEq, Prod.mk.injEq] at h
                obtain ⟨rfl, rfl⟩ := h
                refine ⟨some, (env_ren_some _).symm, rfl, fun e => ?_⟩
                simp [exAppend, hel, env_ren_some, fresh, *]
              · cases h
            · cases h
        · cases h
      · cases h
    · split at h
      · split at h
        · split at h
          · split at h
            · simp only [Option.some.injEq, Prod.mk.injEq] at h
              obtain ⟨rfl, rfl⟩ := h
              rw [scrub_eq]
              refine ⟨hide _, rfl, rfl, fun e => ?_⟩
              simp [exAppend, hel, scrub_eq, *]
            · cases h
          · cases h
        · cases h
      · cases h
    · cases h
theorem appendR_env {s : St} {sz bytes : Nat} {a x r : AV} {s' : St} (h : exAppendR s sz bytes a x = some (r, s')) :
    ∃ f : Nat → Option Nat, s'.env = s.env.ren f ∧ s'.k = s.k ∧ ∀ e : Env, exAppendR { s with env := e } sz bytes a x = some (r, { s' with env := e.ren f }) := by
  refine ⟨some, ?_⟩
  unfold exAppendR at h
  cases hel : elemsR s.mem sz x with
  | none => simp [hel] at h
  | some nn =>
    obtain ⟨n, news⟩ := nn
    simp only [hel] at h
    split at h
    · cases h
    · split at h
      · split at h
        · simp only [fresh, Option.some.injEq, Prod.mk.injEq] at h
          obtain ⟨rfl, rfl⟩ := h
          exact ⟨(env_ren_some _).symm, rfl, fun e => by simp [exAppendR, hel, env_ren_some, fresh, *]⟩
        · cases h
      · split at h
        · rename_i hsz
          subst hsz
          split at h
          · split at h
            · simp only [Option.some.injEq, Prod.mk.injEq] at h
              obtain ⟨rfl, rfl⟩ := h
              exact ⟨(env_ren_some _).symm, rfl, fun e => by simp [exAppendR, hel, env_ren_some, *]⟩
            · cases h
          · cases h
        · cases h
      · split at h
        · rename_i hsz
          obtain ⟨rfl, hroom⟩ := hsz
          split at h
          · split at h
            · simp only [Option.some.injEq, Prod.mk.injEq] at h
              obtain ⟨rfl, rfl⟩ := h
              exact ⟨(env_ren_some _).symm, rfl, fun e => by simp [exAppendR, hel, env_ren_some, *]⟩
            · cases h
          · cases h
        · rename_i hno
          split at h
          · rename_i hsz
            subst hsz
            have hno2 : ¬ _ := fun q => hno ⟨rfl, q⟩
            split at h
            · split at h
              · simp only [fresh, Option.some.injEq, Prod.mk.injEq] at h
                obtain ⟨rfl, rfl⟩ := h
                exact ⟨(env_ren_some _).symm, rfl, fun e => by simp [exAppendR, hel, env_ren_some, fresh, *]⟩
              · cases h
            · cases h
          · cases h
      · cases h
theorem appendX_env {s : St} {sz bytes : Nat} {a x r : AV} {s' : St} (h : exAppendX s sz bytes a x = some (r, s')) :
    ∃ f : Nat → Option Nat, s'.env = s.env.ren f ∧ s'.k = s.k ∧ ∀ e : Env, exAppendX { s with env := e } sz bytes a x = some (r, { s' with env := e.ren f }) := by
  unfold exAppendX at h
  split at h
  · rename_i q hq
    cases h
    obtain ⟨f, h1, h2, h3⟩ := append_env hq
    exact ⟨f, h1, h2, fun e => by simp only [exAppendX, h3 e]⟩
  · rename_i hq
    obtain ⟨f, h1, h2, h3⟩ := appendR_env h
    refine ⟨f, h1, h2, fun e => ?_⟩
    have hn : exAppend { s with env := e } sz bytes a x = none := by
      cases hc : exAppend { s with env := e } sz bytes a x with
      | none => rfl
      | some q =>
        obtain ⟨q1, q2⟩ := q
        obtain ⟨_, _, _, h4⟩ := append_env hc
        have := h4 s.env
        rw [show ({ ({ s with env := e } : St) with env := s.env } : St) = s from rfl, hq] at this
        cases this
    simp only [exAppendX, hn, h3 e]
theorem appendK_env {s : St} {sz bytes : Nat} {a x r : AV} {s' : St} (h : exAppendK s sz bytes a x = some (r, s')) :
    ∃ f : Nat → Option Nat, s'.env = s.env.ren f ∧ s'.k = s.k ∧ ∀ e : Env, exAppendK { s with env := e } sz bytes a x = some (r, { s' with env := e.ren f }) := by
  unfold exAppendK at h
  split at h
  · refine ⟨some, ?_⟩
    split at h
    · split at h
      · cases h
      · split at h
        · split at h
          · simp only [Option.some.injEq, Prod.mk.injEq] at h
            obtain ⟨rfl, rfl⟩ := h
            exact ⟨(env_ren_some _).symm, rfl, fun e => by simp [exAppendK, env_ren_some, *]⟩
          · cases h
        · split at h
          · simp only [Option.some.injEq, Prod.mk.injEq] at h
            obtain ⟨rfl, rfl⟩ := h
            exact ⟨(env_ren_some _).symm, rfl, fun e => by simp [exAppendK, env_ren_some, *]⟩
          · cases h
        · cases h
    · cases h
  · rename_i hno
    obtain ⟨f, h1, h2, h3⟩ := append_env h
    refine ⟨f, h1, h2, fun e => ?_⟩
    unfold exAppendK
    split
    · exact absurd rfl (hno _ _ _)
    · exact h3 e
theorem share_env {call : Calls'} {s : St} {fn : Nat} {args : List AV} {r : AV} {s' : St} (h : exShare call s fn args = some (r, s')) :
    ∃ f : Nat → Option Nat, s'.env = s.env.ren f ∧ s'.k = s.k ∧ ∀ e : Env, exShare call { s with env := e } fn args = some (r, { s' with env := e.ren f }) := by
  unfold exShare at h
  dsimp only at h
  split at h
  · cases h
  · rename_i hok
    split at h
    · cases h
    · rename_i rv mc hc
      simp only [Option.some.injEq, Prod.mk.injEq] at h
      obtain ⟨rfl, rfl⟩ := h
      refine ⟨_, rfl, rfl, fun e => ?_⟩
      unfold exShare
      dsimp only
      rw [if_neg hok]
      simp only [hc]
      rfl
theorem st_eq {s t : St} (hm : t.mem = s.mem) (hk : t.k = s.k) : t = { s with env := t.env } := by cases t; cases s; cases hm; cases hk; rfl
theorem tail_congr {call : Calls'} {x : XOp} (hc : tailOp x = true) {s t : St} (hm : t.mem = s.mem) (hk : t.k = s.k) (he : ∀ n ∈ x.takes, t.env.get n = s.env.get n) {r : AV} {s' : St} (h : exOp call s x = some (r, s')) :
    ∃ f : Nat → Option Nat, s'.env = s.env.ren f ∧ s'.k = s.k ∧ exOp call t x = some (r, { s' with env := t.env.ren f }) := by
  have calm : calmOp x = true → (∀ n ∈ x.reads, t.env.get n = s.env.get n) → ∃ f : Nat → Option Nat, s'.env = s.env.ren f ∧ s'.k = s.k ∧ exOp call t x = some (r, { s' with env := t.env.ren f }) := by
    intro hcalm hr
    obtain ⟨rfl, h2, _⟩ := calm_congr (K := fun _ => True) hcalm (t := t) ⟨fun _ _ => by rw [hm], fun _ _ _ _ _ _ => trivial⟩ hr (fun _ _ _ _ => trivial) h
    refine ⟨some, (env_ren_some _).symm, rfl, ?_⟩
    rw [h2, env_ren_some, ← st_eq hm hk]
  have e1 : ∀ y, (∀ n ∈ srcTmp y, n ∈ x.takes) → t.env.ev y = s.env.ev y := fun y hy => ev_congr fun n hn => he n (hy n hn)
  unfold tailOp at hc
  split at hc
  · rename_i n a y
    have ha := e1 a (by simp [XOp.takes]; intros; simp [*])
    have hy := e1 y (by simp [XOp.takes]; intros; simp [*])
    refine ⟨some, ?_⟩
    simp only [exOp, ha, hy, hm] at h ⊢
    clear calm e1
    split at h
    · split at h
      · simp only [Option.map_eq_some_iff, Prod.mk.injEq] at h
        obtain ⟨m, hm', rfl, rfl⟩ := h
        refine ⟨(env_ren_some _).symm, rfl, ?_⟩
        simp only [*, if_true, Option.map_some, env_ren_some]
      · cases h
    · cases h
  · rename_i n b a y
    have ha := e1 a (by simp [XOp.takes]; intros; simp [*])
    have hy := e1 y (by simp [XOp.takes]; intros; simp [*])
    simp only [exOp, ha, hy] at h ⊢
    obtain ⟨f, h1, h2, h3⟩ := appendX_env h
    exact ⟨f, h1, h2, by rw [st_eq hm hk]; exact h3 t.env⟩
  · rename_i n b a y
    have ha := e1 a (by simp [XOp.takes]; intros; simp [*])
    have hy := e1 y (by simp [XOp.takes]; intros; simp [*])
    simp only [exOp, ha, hy] at h ⊢
    obtain ⟨f, h1, h2, h3⟩ := appendK_env h
    exact ⟨f, h1, h2, by rw [st_eq hm hk]; exact h3 t.env⟩
  · rename_i g l
    have hg := e1 g (by simp [XOp.takes]; intros; simp [*])
    have hl : l.map t.env.ev = l.map s.env.ev := evL_congr fun n hn => he n (by simp only [XOp.takes]; exact List.mem_append.2 (.inr hn))
    simp only [exOp, hg, hl] at h ⊢
    clear calm e1
    split at h
    · obtain ⟨f, h1, h2, h3⟩ := share_env h
      refine ⟨f, h1, h2, ?_⟩
      have h4 := h3 t.env
      rw [← st_eq hm hk] at h4
      simp only [*]
    · obtain ⟨f, h1, h2, h3⟩ := share_env h
      refine ⟨f, h1, h2, ?_⟩
      have h4 := h3 t.env
      rw [← st_eq hm hk] at h4
      simp only [*]
    · cases h
  · rename_i kd m k v
    have h1 := e1 m (by simp [XOp.takes]; intros; simp [*])
    have h2 := e1 k (by simp [XOp.takes]; intros; simp [*])
    have h3 := e1 v (by simp [XOp.takes]; intros; simp [*])
    refine ⟨some, ?_⟩
    simp only [exOp, h1, h2, h3, hm] at h ⊢
    clear calm e1
    split at h
    · split at h
      · split at h
        · split at h
          · cases h
            refine ⟨(env_ren_some _).symm, rfl, ?_⟩
            simp only [*, if_true, env_ren_some]
          · cases h
            refine ⟨(env_ren_some _).symm, rfl, ?_⟩
            simp only [*, if_true, env_ren_some]
          · cases h
        · cases h
      · cases h
    · cases h
  · rename_i fn l
    have hl : l.map t.env.ev = l.map s.env.ev := evL_congr fun n hn => he n (by simp only [XOp.takes, XOp.reads]; exact hn)
    simp only [exOp, hl] at h ⊢
    obtain ⟨f, h1, h2, h3⟩ := share_env h
    exact ⟨f, h1, h2, by rw [st_eq hm hk]; exact h3 t.env⟩
  · refine calm hc fun n hn => he n ?_
    unfold XOp.takes
    split <;> first | exact hn | (cases hc; done) | (rename_i hx _; simp [XOp.reads] at hn)
theorem ren_id1 (v : AV) : v.ren some = v := ren_some v
theorem tail_one {call : Calls'} {x : XO} (hc : tailOp x.op = true) {s t : St} (hm : t.mem = s.mem) (hk : t.k = s.k) (he : ∀ n ∈ x.takes, t.env.get n = s.env.get n) {s' : St} (h : exOne call s x = some s') :
    ∃ (f : Nat → Option Nat) (v : AV) (t' : St), exOne call t x = some t' ∧ t'.mem = s'.mem ∧ t'.k = s'.k ∧ s'.k = s.k ∧ (∀ u, s'.env.get u = if x.dst = some u then v else (s.env.get u).ren f) ∧ ∀ u, t'.env.get u = if x.dst = some u then v else (t.env.get u).ren f := by
  have r1 : ∀ n ∈ x.op.takes, n ∈ x.takes := fun n hn => List.mem_append.2 (.inl hn)
  have r3 : ∀ u b, x.guard = some (u, b) → u ∈ x.takes := fun u b hg => List.mem_append.2 (.inr (by simp [hg]))
  rcases exOne_bind h with ⟨v, s1, hx, rfl, hg⟩ | ⟨rfl, u, b, hg, hcc⟩
  · obtain ⟨f, h1, h2, h3⟩ := tail_congr hc hm hk (fun n hn => he n (r1 n hn)) hx
    have hbm : ∀ (u : St), (u.bind x.dst v).mem = u.mem := fun u => by cases x.dst <;> rfl
    have hbk : ∀ (u : St), (u.bind x.dst v).k = u.k := fun u => by cases x.dst <;> rfl
    refine ⟨f, v, ({ s1 with env := t.env.ren f } : St).bind x.dst v, ?_, by rw [hbm, hbm], by rw [hbk, hbk], by rw [hbk, h2], fun u => by rw [bind_get, h1, env_ren_get], fun u => by rw [bind_get, env_ren_get]⟩
    unfold exOne
    rcases hg with hg | ⟨u, b, hg, hcc⟩
    · simp only [hg, h3, Option.map_some]; cases x.dst <;> rfl
    · have : t.env.get u = .imm (.val (.bool b)) := by rw [he u (r3 u b hg)]; exact hcc
      simp only [hg, this, h3, Option.map_some, if_true]; cases x.dst <;> rfl
  · have hbm : ∀ (u : St), (u.bind x.dst (.tup [])).mem = u.mem := fun u => by cases x.dst <;> rfl
    have hbk : ∀ (u : St), (u.bind x.dst (.tup [])).k = u.k := fun u => by cases x.dst <;> rfl
    refine ⟨some, .tup [], t.bind x.dst (.tup []), ?_, by rw [hbm, hbm, hm], by rw [hbk, hbk, hk], by rw [hbk], fun u => by rw [bind_get, ren_id1], fun u => by rw [bind_get, ren_id1]⟩
    unfold exOne
    rcases hcc with ⟨c, hcc, hne⟩ | hcc
    · have : t.env.get u = .imm (.val (.bool c)) := by rw [he u (r3 u b hg)]; exact hcc
      simp only [hg, this, hne, if_false]
      cases x.dst <;> rfl
    · have : t.env.get u = .tup [] := by rw [he u (r3 u b hg)]; exact hcc
      simp only [hg, this]
      cases x.dst <;> rfl
section
variable {num : Names} {P : Program}
variable {call : Calls'} {N : Nat} {ops : Array Oper} {xs : List XO} {n : Nat} {s0 sF : St} {S : Nat → St}
theorem late_spec {i : Nat} (h : lateB ops xs n i = true) : ∃ (x : XO) (y d : Nat), xs[i]? = some x ∧ x.op = .mv (.t y) ∧ x.dst = some d ∧ x.guard = none ∧ y ≠ d ∧
    ∀ (j : Nat) z, n ≤ j → xs[j]? = some z → z.dst ≠ some d ∧ z.dst ≠ some y ∧ (d ∈ z.takes → Region.waitsFor .any ops j i = true) := by
  unfold lateB at h
  split at h
  · rename_i x hx
    split at h
    · rename_i y d hop hd hg
      simp only [Bool.and_eq_true, bne_iff_ne, ne_eq, List.all_eq_true, List.mem_range, Bool.or_eq_true, decide_eq_true_eq] at h
      obtain ⟨hyd, hall⟩ := h
      refine ⟨x, y, d, hx, hop, hd, hg, hyd, fun j z hj hz => ?_⟩
      have hjl : j < xs.length := (List.getElem?_eq_some_iff.1 hz).1
      rcases hall j hjl with h | h
      · omega
      · rw [hz] at h
        simp only [Bool.and_eq_true, bne_iff_ne, ne_eq, Bool.or_eq_true, Bool.not_eq_true', List.contains_eq_mem, decide_eq_false_iff_not] at h
        obtain ⟨h1, h2, h3⟩ := h
        refine ⟨h1, h2, fun hd => ?_⟩
        rcases h3 with h3 | h3
        · exact absurd hd h3
        · exact h3
    · cases h
  · cases h
structure Floats (ops : Array Oper) (xs : List XO) (n : Nat) : Prop where
  strong : ∀ (j : Nat) z, n ≤ j → xs[j]? = some z → tailOp z.op = true
  sink : ∀ i, i < n → lateB ops xs n i = false → ∃ j, j ≤ n ∧ i < j ∧ Region.waitsFor .any ops j i = true ∧ (j = n ∨ lateB ops xs n j = false)
  lt : n < ops.size
  chain : Region.chainB .any ops n = true
  low : ∀ (i : Nat) o, ops[i]? = some o → ∀ e ∈ o.after, Region.binds .any e = true → e.on < i
theorem chain_spec (h : Region.chainB .any ops n = true) {t : Nat} (hn : n < t) (ht : t < ops.size) : Region.waitsFor .any ops t (t - 1) = true := by
  have := List.all_eq_true.1 h t (List.mem_range.2 ht)
  simp only [Bool.or_eq_true, decide_eq_true_eq] at this
  rcases this with h | h
  · omega
  · exact h
theorem Floats.waits (fl : Floats ops xs n) {listed : Array Bool} (inv : HeadInv .any ops n listed) : ∀ (d i : Nat), n - i = d → i < n → lateB ops xs n i = false → listed.getD i true = false → ∀ t, n ≤ t → t ∉ Region.ready .any ops listed := by
  intro d
  induction d using Nat.strongRecOn with
  | _ d ih =>
    intro i hd hi hlate hun t ht hr
    have htlt : t < ops.size := by
      obtain ⟨_, ot, hot, _⟩ := mem_ready.1 hr
      exact (Array.getElem?_eq_some_iff.1 hot).1
    by_cases htn : t = n
    · subst htn
      obtain ⟨j, hj1, hj2, hw, hj3⟩ := fl.sink i hi hlate
      by_cases hjt : j = t
      · subst hjt
        have := ready_waits hr hw
        rw [getD_both hun] at this; cases this
      · have hjl : lateB ops xs t j = false := by rcases hj3 with h | h; exact absurd h hjt; exact h
        cases hl : listed.getD j false with
        | true =>
          obtain ⟨oj, hoj, e, he, hb, hon⟩ := Region.waitsFor_spec hw
          have h2 := inv.closed j oj hoj hl e he hb
          rw [hon, getD_both hun] at h2
          cases h2
        | false =>
          have hjs : j < listed.size := by rw [inv.size]; omega
          exact ih (t - j) (by omega) j rfl (by omega) hjl (getD_in hjs hl) t (Nat.le_refl _) hr
    · have := ready_waits hr (chain_spec fl.chain (by omega) htlt)
      rw [getD_both (inv.tail (t - 1) (by omega) (by omega))] at this
      cases this
theorem Floats.ready_some (fl : Floats ops xs n) {listed : Array Bool} (hsz : listed.size = ops.size) (hl : left ops.size listed ≠ 0) : Region.ready .any ops listed ≠ [] := by
  have hex : ∃ i, i < ops.size ∧ listed.getD i true = false := by
    obtain ⟨i, hi, h⟩ := List.countP_pos_iff.1 (Nat.pos_of_ne_zero hl)
    exact ⟨i, List.mem_range.1 hi, by simpa using h⟩
  have : ∃ i, (i < ops.size ∧ listed.getD i true = false) ∧ ∀ j, j < i → ¬ (j < ops.size ∧ listed.getD j true = false) := by
    obtain ⟨i, hi⟩ := hex
    induction i using Nat.strongRecOn with
    | _ i ih =>
      by_cases h : ∃ j, j < i ∧ (j < ops.size ∧ listed.getD j true = false)
      · obtain ⟨j, h1, h2⟩ := h; exact ih j h1 h2
      · exact ⟨i, hi, fun j hj h' => h ⟨j, hj, h'⟩⟩
  obtain ⟨i, ⟨hi, hl⟩, hmin⟩ := this
  have ho : ops[i]? = some ops[i] := Array.getElem?_eq_getElem hi
  have : i ∈ Region.ready .any ops listed := by
    refine mem_ready.2 ⟨hl, _, ho, fun e he hb => ?_⟩
    have h1 := fl.low i _ ho e he hb
    have h2 : listed.getD e.on true = true := by
      cases h3 : listed.getD e.on true with
      | true => rfl
      | false => exact absurd ⟨by omega, h3⟩ (hmin e.on h1)
    have h4 : e.on < listed.size := by omega
    simp [h4] at h2 ⊢; exact h2
  intro h
  rw [h] at this; cases this
structure Behind (ops : Array Oper) (xs : List XO) (n : Nat) (S : Nat → St) (listed : Array Bool) (t : St) (k : Nat) : Prop where
  lo : n ≤ k
  hi : k ≤ ops.size
  size : listed.size = ops.size
  head : ∀ i, i < n → lateB ops xs n i = false → listed.getD i true = true
  done : ∀ i, n ≤ i → i < k → listed.getD i true = true
  todo : ∀ i, k ≤ i → i < ops.size → listed.getD i true = false
  mem : t.mem = (S k).mem
  kk : t.k = (S k).k
  env : ∀ u, (∀ (i : Nat) x, i < n → lateB ops xs n i = true → xs[i]? = some x → x.dst = some u → listed.getD i true = true) → t.env.get u = (S k).env.get u
theorem Drawn.moved (d : Drawn call P num N ops xs n s0 sF S) (fl : Floats ops xs n) {i : Nat} (hi : i < n) {x : XO} {y dd : Nat} (hx : xs[i]? = some x) (hop : x.op = .mv (.t y)) (hd : x.dst = some dd) (hg : x.guard = none) (hyd : y ≠ dd)
    (hno : ∀ (j : Nat) z, n ≤ j → xs[j]? = some z → z.dst ≠ some dd ∧ z.dst ≠ some y) : ∀ k, n ≤ k → k ≤ ops.size → (S k).env.get dd = (S k).env.get y := by
  intro k
  induction k with
  | zero => intro h1 _; omega
  | succ k ih =>
    intro h1 h2
    rcases Nat.lt_or_ge k n with hk | hk
    · have hkn : k + 1 = n := by omega
      rw [hkn]
      have h3 : (S (i + 1)).env.get dd = (S i).env.get y ∧ (S (i + 1)).env.get y = (S i).env.get y := by
        have := d.step i x hi hx
        simp only [exOne, hg, hop, exOp, Option.map_some, hd, Option.some.injEq] at this
        rw [← this]
        simp [Env.get, Env.ev, hyd, Ne.symm hyd]
      have h4 : (S n).env.get dd = (S (i + 1)).env.get dd := d.get dd (i + 1) n (by omega) (Nat.le_refl _) fun j z h5 h6 h7 => by
        rcases (d.one j i z x dd h6 hi h7 hx hd).1 with h | h
        · omega
        · exact h
      have h5 : (S n).env.get y = (S (i + 1)).env.get y := d.get y (i + 1) n (by omega) (Nat.le_refl _) fun j z h5 h6 h7 hz => by
        have := (d.one i j x z y hi h6 hx h7 hz).2 (by simp [XO.reads, hop, XOp.reads, srcTmp])
        omega
      rw [h4, h5, h3.1, h3.2]
    · have ih' := ih hk (by omega)
      have hkl : k < xs.length := by rw [d.len]; omega
      have hz : xs[k]? = some xs[k] := List.getElem?_eq_getElem hkl
      obtain ⟨f, v, t', _, _, _, _, h6, _⟩ := tail_one (fl.strong k _ hk hz) rfl rfl (fun _ _ => rfl) (d.go k _ hz)
      obtain ⟨h7, h8⟩ := hno k _ hk hz
      rw [h6, h6, if_neg h7, if_neg h8, ih']
theorem Drawn.behind {ro : Option Nat} (d : Drawn call P num N ops xs n s0 sF S) (fl : Floats ops xs n) (hcall : CallOK num P call) {Q : Exit → Act → World → Prop} {k0 : Nat} {C : Cx} {m : Mem} {a0 : Act} (hN : N ≤ a0.tmps.size) (hQ : ∀ D a', Later num k0 C m a0 D sF a' → Q .normal a' D.w) :
    ∀ (c : Nat) (listed : Array Bool) (a : Act) (D : Cx) (t : St) (k : Nat), left ops.size listed = c → Behind ops xs n S listed t k → Later num k0 C m a0 D t a → wpAnyIn (fz ro) 0 P .any ops Q c listed a D.w := by
  intro c
  induction c with
  | zero =>
    intro listed a D t k hl b hlat
    have hall : ∀ i, i < ops.size → listed.getD i true = true := by
      intro i hi
      cases h : listed.getD i true with
      | true => rfl
      | false =>
        have := List.countP_eq_zero.1 hl i (List.mem_range.2 hi)
        simp [h] at this
    have hk : k = ops.size := by
      rcases Nat.lt_or_ge k ops.size with h | h
      · have := b.todo k (Nat.le_refl _) h
        rw [hall k h] at this; cases this
      · have := b.hi; omega
    subst hk
    refine ⟨?_, ?_⟩
    · rw [List.eq_nil_iff_forall_not_mem]
      intro i hi
      obtain ⟨h1, o, ho, _⟩ := mem_ready.1 hi
      rw [hall i (Array.getElem?_eq_some_iff.1 ho).1] at h1; cases h1
    · have hfin : S ops.size = sF := by rw [← d.len]; exact d.fin
      have henv : ∀ u, t.env.get u = sF.env.get u := fun u => by rw [← hfin]; exact b.env u fun i x hi _ _ _ => hall i (by have := d.hn; omega)
      have hmem := b.mem
      have hkk := b.kk
      rw [hfin] at hmem hkk
      exact hQ D a ⟨⟨by rw [← hmem]; exact hlat.rep.mem, fun u => by rw [← henv]; exact hlat.rep.env u, by rw [← hmem, ← hkk]; exact hlat.rep.k⟩, by rw [← hmem]; exact hlat.step, by rw [← hkk]; exact hlat.k, hlat.size, hlat.marks⟩
  | succ c ih =>
    intro listed a D t k hl b hlat
    refine ⟨fun h => absurd h (fl.ready_some b.size (by omega)), fun i hi => ?_⟩
    obtain ⟨hun, oi, hoi, _⟩ := mem_ready.1 hi
    have hisz : i < ops.size := (Array.getElem?_eq_some_iff.1 hoi).1
    obtain ⟨x, hx, htr⟩ := d.tr i oi hoi
    have hleft : left ops.size (listed.setIfInBounds i true) = c := by have := left_set hisz hun; omega
    rcases Nat.lt_or_ge i n with hin | hin
    ·
      have hlate : lateB ops xs n i = true := by
        cases h : lateB ops xs n i with
        | true => rfl
        | false => rw [b.head i hin h] at hun; cases hun
      obtain ⟨x', y, dd, hx', hop, hd, hg, hyd, hno⟩ := late_spec hlate
      rw [hx] at hx'
      cases hx'
      have hy : t.env.get y = (S k).env.get y := b.env y fun j z hj hlj hz hzd => by
        have := (d.one i j x z y hin hj hx hz hzd).2 (by simp [XO.reads, hop, XOp.reads, srcTmp])
        have h2 := ready_waits hi this.2
        exact getD_up h2
      have h1 : exOne call t x = some (t.bind (some dd) (t.env.get y)) := by
        simp only [exOne, hg, hop, exOp, Option.map_some, hd]
        rfl
      unfold wpOpIn
      simp only [hoi]
      refine one_wp hcall htr hlat.rep (by rw [hlat.size]; exact hN) h1 fun E a' hl' => ?_
      rw [hlat.k] at hl'
      refine ih _ a' E _ k hleft ?_ (hlat.trans hl')
      refine ⟨b.lo, b.hi, by simp [b.size], fun j hj hjl => ?_, fun j h2 h3 => ?_, fun j h2 h3 => ?_, b.mem, b.kk, fun u hu => ?_⟩
      · have h4 := b.head j hj hjl
        by_cases hij : i = j
        · subst hij; rw [hlate] at hjl; cases hjl
        · rw [getD_set_ne true hij]; exact h4
      · rw [getD_set_ne true (by omega)]; exact b.done j h2 h3
      · rw [getD_set_ne true (by have := b.lo; omega)]; exact b.todo j h2 h3
      · rw [bind_get]
        by_cases hud : u = dd
        · subst hud
          rw [if_pos rfl, hy]
          exact (d.moved fl hin hx hop hd hg hyd (fun j z hj hz => ⟨(hno j z hj hz).1, (hno j z hj hz).2.1⟩) k b.lo b.hi).symm
        · rw [if_neg (by intro h; cases h; exact hud rfl)]
          refine b.env u fun j z hj hlj hz hzd => ?_
          have h5 := hu j z hj hlj hz hzd
          by_cases hij : i = j
          · subst hij
            rw [hx] at hz; cases hz
            rw [hd] at hzd; cases hzd
            exact absurd rfl hud
          · rw [getD_set_ne true hij] at h5; exact h5
    ·
      have hik : i = k := by
        rcases Nat.lt_trichotomy i k with h | h | h
        · rw [b.done i hin h] at hun; cases hun
        · exact h
        · have := ready_waits hi (chain_spec fl.chain (by have := b.lo; omega) hisz)
          rw [getD_both (b.todo (i - 1) (by omega) (by omega))] at this
          cases this
      subst hik
      have hst := d.go i x hx
      have htail := fl.strong i x hin hx
      obtain ⟨f, v, t', h1, h2, h3, h4, h5, h6⟩ := tail_one htail b.mem b.kk (fun u hu => b.env u fun j z hj hlj hz hzd => by
        obtain ⟨z', y, dd, hz', hop, hd, hg, hyd, hno⟩ := late_spec hlj
        rw [hz] at hz'
        cases hz'
        rw [hzd] at hd
        cases hd
        exact getD_up (ready_waits hi ((hno i x hin hx).2.2 hu))) hst
      unfold wpOpIn
      simp only [hoi]
      refine one_wp hcall htr hlat.rep (by rw [hlat.size]; exact hN) h1 fun E a' hl' => ?_
      rw [hlat.k] at hl'
      refine ih _ a' E _ (i + 1) hleft ?_ (hlat.trans hl')
      refine ⟨by omega, by omega, by simp [b.size], fun j hj hjl => ?_, fun j h7 h8 => ?_, fun j h7 h8 => ?_, h2, h3, fun u hu => ?_⟩
      · rw [getD_set_ne true (by omega)]; exact b.head j hj hjl
      · by_cases hij : i = j
        · subst hij; simp [b.size, hisz]
        · rw [getD_set_ne true hij]; exact b.done j h7 (by omega)
      · rw [getD_set_ne true (by omega)]; exact b.todo j (by omega) h8
      · rw [h5, h6]
        by_cases hud : x.dst = some u
        · rw [if_pos hud, if_pos hud]
        · rw [if_neg hud, if_neg hud, b.env u fun j z hj hlj hz hzd => ?_]
          have h9 := hu j z hj hlj hz hzd
          rwa [getD_set_ne true (by omega)] at h9
theorem Drawn.late {ro : Option Nat} (d : Drawn call P num N ops xs n s0 sF S) (fl : Floats ops xs n) (hcall : CallOK num P call) {Q : Exit → Act → World → Prop} {k0 : Nat} {C : Cx} {m : Mem} {a0 : Act} (hN : N ≤ a0.tmps.size) (hQ : ∀ D a', Later num k0 C m a0 D sF a' → Q .normal a' D.w) :
    ∀ (c : Nat) (listed : Array Bool) (a : Act) (D : Cx) (t : St), left ops.size listed = c → HeadInv .any ops n listed → Part xs n S listed t → Later num k0 C m a0 D t a → wpAnyIn (fz ro) 0 P .any ops Q c listed a D.w := by
  intro c
  induction c with
  | zero =>
    intro listed a D t hl inv p hlat
    have := List.countP_eq_zero.1 hl n (List.mem_range.2 fl.lt)
    rw [inv.tail n (Nat.le_refl _) fl.lt] at this
    simp at this
  | succ c ih =>
    intro listed a D t hl inv p hlat
    by_cases hall : ∀ i, i < n → lateB ops xs n i = false → listed.getD i true = true
    ·
      refine d.behind fl hcall hN hQ (c + 1) listed a D t n hl ⟨Nat.le_refl _, d.hn, inv.size, hall, fun i h1 h2 => by omega, inv.tail, ?_, p.k.trans (d.pre 0 n (Nat.zero_le _) (Nat.le_refl _)).2.2.symm, fun u hu => ?_⟩ hlat
      · refine List.ext_getElem? fun id => ?_
        rcases Nat.lt_or_ge id (S n).mem.length with h | h
        · refine p.live id h fun j hj h1 h2 => ?_
          cases hlj : lateB ops xs n j with
          | false => exact hall j hj hlj
          | true =>
            obtain ⟨x, y, dd, hx, hop, hd, hg, _⟩ := late_spec hlj
            have := d.step j x hj hx
            simp only [exOne, hg, hop, exOp, Option.map_some, hd, Option.some.injEq] at this
            rw [← this] at h2
            exact absurd h2 (by show ¬ id < (S j).mem.length; omega)
        · rw [List.getElem?_eq_none h, List.getElem?_eq_none (by rw [p.len]; exact h)]
      · by_cases hw : ∃ (j : Nat) (y : XO), j < n ∧ xs[j]? = some y ∧ y.dst = some u
        · obtain ⟨j, y, hj, hy, hd⟩ := hw
          have hlj : listed.getD j true = true := by
            cases hl : lateB ops xs n j with
            | false => exact hall j hj hl
            | true => exact hu j y hj hl hy hd
          rw [(p.done j y u hj hy hd hlj).1]
          exact (d.get u (j + 1) n (by omega) (Nat.le_refl _) fun k z h5 h6 h7 => by
            rcases (d.one k j z y u h6 hj h7 hy hd).1 with h | h
            · omega
            · exact h).symm
        · rw [(p.not u fun j y h1 h2 h3 => absurd ⟨j, y, h1, h2, h3⟩ hw).1]
          exact (d.get u 0 n (Nat.zero_le _) (Nat.le_refl _) fun k z _ h6 h7 h8 => hw ⟨k, z, h6, h7, h8⟩).symm
    · have hex : ∃ j, j < n ∧ lateB ops xs n j = false ∧ listed.getD j true = false := by
        apply Classical.byContradiction
        intro hne
        apply hall
        intro i hi hli
        cases h : listed.getD i true with
        | true => rfl
        | false => exact absurd ⟨i, hi, hli, h⟩ hne
      obtain ⟨j, hj, hlj, hjun⟩ := hex
      refine ⟨fun h => absurd h (fl.ready_some inv.size (by omega)), fun i hi => ?_⟩
      obtain ⟨hun, oi, hoi, _⟩ := mem_ready.1 hi
      have hisz : i < ops.size := (Array.getElem?_eq_some_iff.1 hoi).1
      have hin : i < n := by
        rcases Nat.lt_or_ge i n with h | h
        · exact h
        · exact absurd hi (fl.waits inv _ j rfl hj hlj hjun i h)
      obtain ⟨x, hx, htr⟩ := d.tr i oi hoi
      obtain ⟨t1, h1, hnext⟩ := d.part_step hcall p hin hi hx (trOper_spec htr).1 hlat.rep
      unfold wpOpIn
      simp only [hoi]
      refine one_wp hcall htr hlat.rep (by rw [hlat.size]; exact hN) h1 fun E a' hl' => ?_
      obtain ⟨t2, F, hw, hl2, p2⟩ := hnext E a' hl'.rep
      rw [← hw]
      refine ih _ a' F t2 (by have := left_set hisz hun; omega) (inv.set hi hin) p2 ?_
      rw [hlat.k] at hl'
      rw [hl'.k] at hl2
      exact (hlat.trans hl').trans hl2
end
section
variable {num : Names} {P : Program}
theorem region_wp {ro : Option Nat} {call : Calls'} (hcall : CallOK num P call) (hmix : P.follows .mixedOrders = true) {N id : Nat} {ops : Array Oper} {draw : Bool} {keep : List Nat} {xs : List XO} (htr : trOps P num N ops ops.toList = xs.map XO.wipe) (hd : drawsOk (.region id ops draw) (.region keep xs) = true) {C : Cx} {s s' : St} {a : Act} (hs : SRep num C s a) (hN : N ≤ a.tmps.size) (h : exOps call s xs = some s')
    {Q : Exit → Act → World → Prop} (hQ : ∀ D a', Later num s.k C s.mem a D s' a' → Q .normal a' D.w) : (Code.region id ops draw).wpIn (fz ro) 0 P Q a C.w := by
  cases draw with
  | false => exact wpIn_region_list (list_wp hcall ops.toList xs htr hs hN h hQ)
  | true =>
    simp only [drawsOk, Bool.and_eq_true, beq_iff_eq, List.any_eq_true] at hd
    obtain ⟨⟨n, hn, hok⟩, hlen⟩ := hd
    rw [Bool.or_eq_true] at hok
    rcases hok with hok | hok
    case inr =>
      simp only [drawOkL, Bool.and_eq_true] at hok
      obtain ⟨⟨⟨⟨⟨⟨k1, k2⟩, k3⟩, k4⟩, k5⟩, k6⟩, k7⟩ := hok
      simp only [decide_eq_true_eq] at k6
      obtain ⟨S, d⟩ := drawn_of (call := call) (s0 := s) htr hlen k1 k2 k3 (by omega) h
      have fl : Floats ops xs n := by
        refine ⟨fun j z hj hz => ?_, fun i hi hli => ?_, k6.1, k6.2, fun i o ho e he hb => ?_⟩
        · refine List.all_eq_true.1 k4 z (List.mem_of_getElem? (i := j - n) ?_)
          rw [List.getElem?_drop, ← hz]
          congr 1; omega
        · have := List.all_eq_true.1 k5 i (List.mem_range.2 hi)
          rw [hli, Bool.false_or] at this
          obtain ⟨j, hj, h2⟩ := List.any_eq_true.1 this
          simp only [Bool.and_eq_true, decide_eq_true_eq, Bool.or_eq_true, beq_iff_eq, Bool.not_eq_true'] at h2
          exact ⟨j, by have := List.mem_range.1 hj; omega, h2.1, h2.2.1, h2.2.2⟩
        · have := List.all_eq_true.1 k7 i (List.mem_range.2 (Array.getElem?_eq_some_iff.1 ho).1)
          simp only [ho] at this
          have := Array.all_eq_true_iff_forall_mem.1 this e he
          simpa [hb] using this
      refine wpIn_region_any hmix ?_
      have h0 := draw_later hs
      have h1 := room_later h0.rep ((S n).mem.length - s.mem.length)
      exact d.late fl hcall (Q := Q) (k0 := s.k) (C := C) (m := s.mem) (a0 := a) hN hQ ops.size (Array.replicate ops.size false) a _ _ (replicate_left ops.size ops.size (Nat.le_refl _))
        ⟨by simp, fun j oj _ hl => (by rw [getD_replicate_false] at hl; cases hl), fun t ht h2 => getD_in (by simpa using h2) (getD_replicate_false _ _)⟩
        (d.start h0.rep) (h0.trans h1)
    simp only [drawOk, Bool.and_eq_true] at hok
    obtain ⟨⟨⟨⟨k1, k2⟩, k3⟩, k4⟩, k5⟩ := hok
    have htail : n = ops.size ∨ (n < ops.size ∧ Region.sinkB .any ops n = true ∧ Region.chainB .any ops n = true) := by
      simp only [Bool.or_eq_true, beq_iff_eq, Bool.and_eq_true, decide_eq_true_eq] at k4
      rcases k4 with h | ⟨⟨h, h'⟩, h''⟩
      · exact .inl h
      · exact .inr ⟨h, h', h''⟩
    have hn' : n ≤ ops.size := by rcases htail with h | h <;> omega
    obtain ⟨S, d⟩ := drawn_of (call := call) (s0 := s) htr hlen k1 k2 k3 hn' h
    refine wpIn_region_any hmix ?_
    have h0 := draw_later hs
    have h1 := room_later h0.rep ((S n).mem.length - s.mem.length)
    have := d.any (ro := ro) htail k5 hcall (Q := Q) (k := s.k) (C := C) (m := s.mem) (a0 := a) hN hQ n (Array.replicate ops.size false) a _ _ (replicate_left n ops.size hn')
      ⟨by simp, fun j oj _ hl => (by rw [getD_replicate_false] at hl; cases hl), fun t ht h2 => getD_in (by simpa using h2) (getD_replicate_false _ _)⟩
      (d.start h0.rep) (h0.trans h1)
    rw [show n + (ops.size - n) = ops.size by omega] at this
    exact this
end
end Go.EX


set_option linter.unusedVariables false
set_option linter.unusedSimpArgs false
namespace Go.EX
section
variable {num : Names} {P : Program}
theorem wpIn_scope_straight {F : Fence} {n : Nat} {c : Code} {Q : Exit → Act → World → Prop} {a : Act} {w : World} (h : c.wpIn F n P (Exit.noGoto Q) a w) : (Code.scope c).wpIn F n P Q a w := by
  intro b k cs hro hb hr
  obtain ⟨e, a₁, w₁, hq, harr⟩ := h b (.inScope c :: k) cs hro hb hr
  have h0 : (lone (b.atR a (.code (.scope c) :: k)) cs w).fenced P F := fenced_calm hb hr rfl
  have s0 : step P (lone (b.atR a (.code (.scope c) :: k)) cs w) = .next (lone (b.atR a (.code c :: .inScope c :: k)) cs w) := step_lone_go (by simp [stepG, stepG.exec, Frame.atR])
  have s1 : ∀ a w, step P (lone (b.atR a (.inScope c :: k)) cs w) = .next (lone (b.atR a k) cs w) := fun a w => step_lone_go (by simp [stepG, stepG.exec, Frame.atR])
  cases e with
  | normal => exact ⟨.normal, a₁, w₁, hq, .head h0 s0 (StepsIn.trans harr (.one (fenced_calm hb hr rfl) (s1 _ _)))⟩
  | goto l => exact hq.elim
  | exit id => exact ⟨_, a₁, w₁, hq, .of_steps (.one h0 s0) ⟨fun k' hk => harr.1 k' (by simp [exitTo, hk]), fun hr hk => by
      obtain ⟨k₁, h1, h2⟩ := harr.2 hr (by simp [exitTo, hk])
      exact ⟨k₁, h1, h2⟩⟩⟩
  | ret => exact ⟨_, a₁, w₁, hq, .of_steps (.one h0 s0) harr⟩
  | panic ch => exact ⟨_, a₁, w₁, hq, .of_steps (.one h0 s0) harr⟩
  | outgrown => exact ⟨_, a₁, w₁, hq, .of_steps (.one h0 s0) harr⟩
theorem putObj_tr {C : Cx} {b : Nat} {o : Obj} (hI : ¬ C.I b) (hb : ∀ arr e fz, C.w.heap[b]? ≠ some (.cells arr e fz)) : Tr some C { C with w := C.w.putObj b o } := by
  refine ⟨fun _ h => h, fun c hc => ?_, fun i j hi hj => ?_⟩
  · exact World.putObj_heap_other (fun h => hI (by rw [← h]; exact hc))
  · cases hj
    refine ⟨hi, rfl, fun n e h => h.same ?_⟩
    refine World.putObj_heap_other fun heq => ?_
    obtain ⟨arr, fz, h1, _⟩ := h
    rw [heq] at h1
    exact hb _ _ _ h1
theorem loop_step {C : Cx} {m : Mem} (hm : MRep num C m) {id : Nat} {env : Env} {ps : List Nat} {as b : XCode} {y : Bool} (ho : m[id]? = some (.loop env ps as b y)) {ob : Obj} {o' : AObj}
    (ho' : ORep num { C with w := C.w.putObj (C.σ id) ob } id o') (hf : o'.isFix = false) {k : Nat} (hk : k ≤ m.length) : Step num k C m { C with w := C.w.putObj (C.σ id) ob } (m.set id o') := by
  obtain ⟨R, N, hR, _⟩ := hm.obj id _ ho
  have hI : ¬ C.I (C.σ id) := hm.imm _ ⟨id, _, ho, rfl, rfl⟩
  have hc : ∀ arr e fz, C.w.heap[C.σ id]? ≠ some (.cells arr e fz) := fun arr e fz h => by rw [hR] at h; cases h
  have ht := putObj_tr (o := ob) hI hc
  have hlt : id < m.length := (List.getElem?_eq_some_iff.1 ho).1
  have split : ∀ (i : Nat) (p : AObj), (m.set id o')[i]? = some p → (i = id ∧ p = o') ∨ (i ≠ id ∧ m[i]? = some p) := by
    intro i p hp
    rw [set_get] at hp
    split at hp
    · rename_i h; cases hp; exact .inl ⟨h.1.symm, rfl⟩
    · rename_i h
      refine .inr ⟨fun he => h ⟨he.symm, by rw [he]; exact hlt⟩, hp⟩
  have hne : ∀ (i : Nat) (p : AObj), i ≠ id → m[i]? = some p → p.live = true → C.σ i ≠ C.σ id := by
    intro i p hi hp hl he
    exact hi (hm.inj2 num i id p _ hp ho hl rfl rfl he)
  have hown : ∀ c, Own { C with w := C.w.putObj (C.σ id) ob } (m.set id o') c → Own C m c := by
    rintro c ⟨i, p, hp, hl, hb⟩
    rcases split i p hp with ⟨rfl, rfl⟩ | ⟨hi, hp'⟩
    · exact ⟨i, _, ho, rfl, hb⟩
    · exact ⟨i, p, hp', hl, hb⟩
  refine ⟨⟨by simp; exact hm.len, ?_, ?_, fun c hc' => hm.imm c (hown c hc'), fun c hc' => by simp; exact hm.bd c hc', num.up hm.glo ht.imm ht.keep⟩, rfl, rfl, rfl, by simp, ?_, ?_, fun _ h => h, fun _ h => .inl h, fun c hc' => .inr (hown c hc'), ?_, by simp; exact hk⟩
  · intro i p hp
    rcases split i p hp with ⟨rfl, rfl⟩ | ⟨hi, hp'⟩
    · exact ho'
    · by_cases hl : p.live = true
      · exact orep_mono ht rfl (fun x hx => by rw [← hx]; exact World.putObj_heap_other (hne i p hi hp' hl)) (hm.obj i p hp')
      · cases p with
        | dead => trivial
        | _ => exact absurd rfl hl
  · intro i j p q hp hq hlp hlq he
    rcases split i p hp with ⟨rfl, rfl⟩ | ⟨hi, hp'⟩ <;> rcases split j q hq with ⟨rfl, rfl⟩ | ⟨hj, hq'⟩
    · exact .inl rfl
    · exact absurd he.symm (hne j q hj hq' hlq)
    · exact absurd he (hne i p hi hp' hlp)
    · exact hm.inj i j p q hp' hq' hlp hlq he
  · intro c hc' hno
    exact World.putObj_heap_other fun he => hno ⟨id, _, ho, rfl, he.symm⟩
  · intro c n e h
    refine h.same (World.putObj_heap_other fun heq => ?_)
    obtain ⟨arr, fz, h1, _⟩ := h
    rw [heq] at h1
    exact hc _ _ _ h1
  · intro i hi p hp hmv
    rcases split i p hp with ⟨rfl, rfl⟩ | ⟨hi', hp'⟩
    · exact ⟨_, ho, rfl, rfl⟩
    · exact ⟨p, hp', hmv, rfl⟩
theorem putObj_step {C D : Cx} {m m' : Mem} {k : Nat} (hst : Step num k C m D m') {b : Nat} {o : Obj} (hlo : C.w.heap.size ≤ b) (hI : ¬ D.I b) (hb : ∀ arr e fz, D.w.heap[b]? ≠ some (.cells arr e fz)) (hown : ¬ Own D m' b) :
    Step num k C m { D with w := D.w.putObj b o } m' := by
  have ht := putObj_tr (o := o) hI hb
  refine ⟨⟨hst.rep.len, fun i p hp => ?_, hst.rep.inj, hst.rep.imm, fun c hc => by simp; exact hst.rep.bd c hc, num.up hst.rep.glo ht.imm ht.keep⟩, hst.os, hst.tape, hst.out, by simp; exact hst.size, fun c hc hno => ?_, fun c n e h => ?_, hst.imm, hst.imm', hst.own, hst.same, hst.len⟩
  · by_cases hl : p.live = true
    · exact orep_mono ht rfl (fun x hx => by rw [← hx]; exact World.putObj_heap_other fun he => hown ⟨i, p, hp, hl, he⟩) (hst.rep.obj i p hp)
    · cases p with
      | dead => trivial
      | _ => exact absurd rfl hl
  · rw [← hst.keep c hc hno]
    exact World.putObj_heap_other (by omega)
  · have h1 := hst.sz c n e h
    refine h1.same (World.putObj_heap_other fun heq => ?_)
    obtain ⟨arr, fz, h2, _⟩ := h1
    rw [heq] at h2
    exact hb _ _ _ h2
theorem get_mem (e : Env) (t : Nat) : e.get t = .junk ∨ (t, e.get t) ∈ e := by
  induction e with
  | nil => exact .inl rfl
  | cons p r ih =>
    obtain ⟨k, v⟩ := p
    simp only [Env.get]
    by_cases h : t = k
    · subst h; rw [if_pos rfl]; exact .inr (List.mem_cons_self ..)
    · rw [if_neg h]
      rcases ih with ih | ih
      · exact .inl ih
      · exact .inr (List.mem_cons_of_mem _ ih)
theorem erep_of {C : Cx} {e : Env} {tmps : Array Value} (h : ∀ p ∈ e, ARep num C p.2 (tmps.getD p.1 undef)) : ERep num C e tmps := by
  intro t
  rcases get_mem e t with h1 | h1
  · rw [h1]; exact .junk _
  · exact h _ h1
theorem enterAt_rep {C : Cx} : ∀ (ps : List Nat) (xs : List AV) (vs : List Value) {e : Env} {tmps : Array Value}, ERep num C e tmps → (∀ p ∈ ps, p < tmps.size) → xs.length = vs.length →
    (∀ (j : Nat) (x : AV) (u : Value), xs[j]? = some x → vs[j]? = some u → ARep num C x u) → ERep num C (e.enterAt ps xs) ((ps.zip vs).foldl (fun t p => t.setIfInBounds p.1 p.2) tmps)
  | [], xs, vs, e, tmps, he, _, _, _ => by simpa [Env.enterAt] using he
  | p :: ps, [], vs, e, tmps, he, _, hl, _ => by
    obtain rfl : vs = [] := by simpa using hl.symm
    simpa [Env.enterAt] using he
  | p :: ps, x :: xs, [], e, tmps, he, _, hl, _ => by simp at hl
  | p :: ps, x :: xs, v :: vs, e, tmps, he, hp, hl, hr => by
    simp only [Env.enterAt, List.zip_cons_cons, List.foldl_cons]
    refine enterAt_rep ps xs vs (ERep.put (a := { tmps := tmps, defers := [] }) he (hp p (List.mem_cons_self ..)) (hr 0 x v rfl rfl)) (fun q hq => by simpa [Act.put] using hp q (List.mem_cons_of_mem _ hq)) (by simpa using hl) fun j y u hy hu => hr (j + 1) y u (by simpa using hy) (by simpa using hu)
theorem foldl_set_size (l : List (Nat × Value)) : ∀ (tmps : Array Value), (l.foldl (fun t p => t.setIfInBounds p.1 p.2) tmps).size = tmps.size := by
  induction l with
  | nil => intro t; rfl
  | cons p l ih => intro t; rw [List.foldl_cons, ih]; simp
end
end Go.EX


set_option linter.unusedVariables false
set_option linter.unusedSimpArgs false
namespace Go.EX
def Le (c d : Calls') : Prop := ∀ f a m r, c f a m = some r → d f a m = some r
theorem exView_mono {c d : Calls'} (h : Le c d) {s : St} {fn : Nat} {as : List AV} {r : AV × St} (hr : exView c s fn as = some r) : exView d s fn as = some r := by
  unfold exView at *
  cases ha : as.mapM (frz s.mem) with
  | none => simp [ha] at hr
  | some l =>
    simp only [ha] at hr ⊢
    cases hc : c fn l [] with
    | none => simp [hc] at hr
    | some p => simp only [hc] at hr; simp only [h _ _ _ _ hc]; exact hr
theorem exOwn_mono {c d : Calls'} (h : Le c d) {s : St} {fn : Nat} {as : List AV} {r : AV × St} (hr : exOwn c s fn as = some r) : exOwn d s fn as = some r := by
  unfold exOwn at *
  cases ha : as.mapM (frz s.mem) with
  | none => simp [ha] at hr
  | some l =>
    simp only [ha] at hr ⊢
    cases hc : c fn l [] with
    | none => simp [hc] at hr
    | some p => simp only [hc] at hr; simp only [h _ _ _ _ hc]; exact hr
theorem exShare_mono {c d : Calls'} (h : Le c d) {s : St} {fn : Nat} {as : List AV} {r : AV × St} (hr : exShare c s fn as = some r) : exShare d s fn as = some r := by
  unfold exShare at *
  dsimp only at *
  generalize hm : AV.ren.renL (place (order 0 (AV.refs.refsL as) s.mem)) as = l at *
  generalize hq : s.mem.pickAll (order 0 (AV.refs.refsL as) s.mem) = q at *
  cases hc : c fn l q with
  | none => simp [hc] at hr
  | some p => simp only [hc] at hr; simp only [h _ _ _ _ hc]; exact hr
theorem exPeek_mono {c d : Calls'} (h : Le c d) {s : St} {fn : Nat} {as : List AV} {r : AV × St} (hr : exPeek c s fn as = some r) : exPeek d s fn as = some r := by
  unfold exPeek at *
  dsimp only at *
  generalize hm : AV.ren.renL (place (order 0 (AV.refs.refsL as) s.mem)) as = l at *
  cases hc : c fn l (s.mem.pickAll (order 0 (AV.refs.refsL as) s.mem)) with
  | none => simp [hc] at hr
  | some p => simp only [hc] at hr; simp only [h _ _ _ _ hc]; exact hr
theorem exLook_mono {c d : Calls'} (h : Le c d) {s : St} {fn : Nat} {as : List AV} {r : AV × St} (hr : exLook c s fn as = some r) : exLook d s fn as = some r := by
  unfold exLook at *
  dsimp only at *
  generalize hm : AV.ren.renL (place (order 0 (AV.refs.refsL as) s.mem)) as = l at *
  cases hc : c fn l (s.mem.pickAll (order 0 (AV.refs.refsL as) s.mem)) with
  | none => simp [hc] at hr
  | some p => simp only [hc] at hr; simp only [h _ _ _ _ hc]; exact hr
theorem exOp_mono {c d : Calls'} (h : Le c d) {s : St} {op : XOp} {r : AV × St} (hr : exOp c s op = some r) : exOp d s op = some r := by
  cases op with
  | call mode fn args =>
    cases mode with
    | view => exact exView_mono h hr
    | own => exact exOwn_mono h hr
    | share => exact exShare_mono h hr
    | peek => exact exPeek_mono h hr
    | look => exact exLook_mono h hr
  | callV f args =>
    simp only [exOp] at hr ⊢
    split at hr
    · rename_i heq; exact exShare_mono h hr
    · rename_i heq; exact exShare_mono h hr
    · cases hr
  | _ => exact hr
theorem exOne_mono {c d : Calls'} (h : Le c d) {s : St} {o : XO} {r : St} (hr : exOne c s o = some r) : exOne d s o = some r := by
  unfold exOne at *
  have hop : ∀ x, exOp c s o.op = some x → exOp d s o.op = some x := fun x hx => exOp_mono h hx
  have hgo : ∀ (g : AV × St → St), (exOp c s o.op).map g = some r → (exOp d s o.op).map g = some r := by
    intro g hg
    cases hx : exOp c s o.op with
    | none => simp [hx] at hg
    | some x => rw [hop x hx]; rwa [hx] at hg
  dsimp only at *
  split at hr
  · exact hgo _ hr
  · split at hr
    · rename_i heq
      split at hr
      · rename_i hcb; simp only [hcb, if_true] at *; exact hgo _ hr
      · rename_i hcb; simp only [hcb, if_false] at *; exact hr
    · exact hr
    · cases hr
theorem exOps_mono {c d : Calls'} (h : Le c d) (l : List XO) : ∀ {s : St} {r : St}, exOps c s l = some r → exOps d s l = some r := by
  induction l with
  | nil => intro s r hr; exact hr
  | cons o l ih =>
    intro s r hr
    simp only [exOps] at *
    cases hx : exOne c s o with
    | none => simp [hx] at hr
    | some s' => rw [hx] at hr; rw [exOne_mono h hx]; exact ih hr
theorem rounds_mono {f g : St → Option (XExit × St)} (h : ∀ s r, f s = some r → g s = some r) : ∀ (n m : Nat), n ≤ m → ∀ {s r}, rounds f n s = some r → rounds g m s = some r := by
  intro n
  induction n with
  | zero => intro m _ s r hr; simp [rounds] at hr
  | succ n ih =>
    intro m hm s r hr
    obtain ⟨m, rfl⟩ : ∃ k, m = k + 1 := ⟨m - 1, by omega⟩
    simp only [rounds] at *
    cases hx : f s with
    | none => simp [hx] at hr
    | some p =>
      rw [h _ _ hx]
      rw [hx] at hr
      obtain ⟨e, s'⟩ := p
      cases e with
      | normal => exact ih m (by omega) hr
      | exit id => exact hr
      | ret => exact hr
theorem exRange_mono {c d : Calls'} (h : Le c d) {s : St} {f : Src} {ps keep : List Nat} {as b : XCode} {r} (hr : exRange c s f ps keep as b = some r) : exRange d s f ps keep as b = some r := by
  unfold exRange at *
  split at hr
  · rename_i heq
    split at hr
    · rename_i hst
      rw [if_pos hst]
      split at hr
      · rename_i hx
        rw [exShare_mono h hx]
        exact hr
      · cases hr
    · cases hr
  · cases hr
theorem exRound_mono {f g : XCode → St → Option (XExit × St)} (h : ∀ x s r, f x s = some r → g x s = some r) {args : List AV} {m : Mem} {r} (hr : exRound f args m = some r) : exRound g args m = some r := by
  unfold exRound at *
  split at hr
  · split at hr
    · rename_i heq
      split at hr
      · rename_i hl
        split at hr
        · rename_i hx
          split at hr
          · rename_i heq2
            split at hr
            · rename_i hx2
              simp only [heq, hl, if_true, h _ _ _ hx, heq2, h _ _ _ hx2]
              exact hr
            · cases hr
          · cases hr
        · cases hr
      · cases hr
    · cases hr
  · cases hr
theorem exCode_mono {c d : Calls'} (h : Le c d) {n m : Nat} (hnm : n ≤ m) (x : XCode) : ∀ {s r}, exCode c n x s = some r → exCode d m x s = some r := by
  induction x with
  | skip => intro s r hr; exact hr
  | region keep ops =>
    intro s r hr
    simp only [exCode] at *
    cases hx : exOps c s ops with
    | none => simp [hx] at hr
    | some s' => rw [hx] at hr; rw [exOps_mono h ops hx]; exact hr
  | seq a b iha ihb =>
    intro s r hr
    simp only [exCode] at *
    cases hx : exCode c n a s with
    | none => simp [hx] at hr
    | some p =>
      rw [iha hx]
      rw [hx] at hr
      obtain ⟨e, s'⟩ := p
      cases e with
      | normal => exact ihb hr
      | exit id => exact hr
      | ret => exact hr
  | cond k a b iha ihb =>
    intro s r hr
    simp only [exCode] at *
    split at hr
    · split at hr
      · rename_i ht; simp only [ht, if_true]; exact iha hr
      · rename_i ht; simp only [ht, if_false]; exact ihb hr
    · cases hr
  | block id b ih =>
    intro s r hr
    simp only [exCode] at *
    cases hx : exCode c n b s with
    | none => simp [hx] at hr
    | some p => rw [ih hx]; rw [hx] at hr; exact hr
  | loop keep b ih =>
    intro s r hr
    simp only [exCode] at *
    exact rounds_mono (fun s r hs => ih hs) n m hnm hr
  | exit id => intro s r hr; exact hr
  | ret => intro s r hr; exact hr
  | rangeF f ps keep as b => intro s r hr; simp only [exCode] at *; exact exRange_mono h hr
theorem exFun_mono {c d : Calls'} (h : Le c d) {n m : Nat} (hnm : n ≤ m) {f : XFun} {as : List AV} {q : Mem} {r} (hr : exFun c n f as q = some r) : exFun d m f as q = some r := by
  unfold exFun at *
  cases hx : exCode c n f.body { k := q.length, env := enter 0 as, mem := q } with
  | none => simp [hx] at hr
  | some p => rw [exCode_mono h hnm f.body hx]; rw [hx] at hr; exact hr
section
variable (code : Nat → Option XFun) (ext : Calls')
theorem callN_succ (n : Nat) : Le (callN code ext n) (callN code ext (n + 1)) := by
  induction n with
  | zero => intro f a m r h; simp [callN] at h
  | succ n ih =>
    intro f a m r h
    unfold callN at h ⊢
    cases hc : code f with
    | none =>
      simp only [hc] at h ⊢
      split at h
      · rename_i hy; rw [if_pos hy]; exact exRound_mono (fun x s r hx => exCode_mono ih (Nat.le_succ n) x hx) h
      · rename_i hy; rw [if_neg hy]; exact h
    | some x => simp only [hc] at h ⊢; exact exFun_mono ih (Nat.le_succ n) h
theorem callN_mono {n m : Nat} (h : n ≤ m) : Le (callN code ext n) (callN code ext m) := by
  induction m with
  | zero => obtain rfl : n = 0 := by omega
            exact fun _ _ _ _ h => h
  | succ m ih =>
    rcases Nat.lt_or_ge n (m + 1) with h' | h'
    · exact fun f a q r hr => callN_succ code ext m f a q r (ih (by omega) f a q r hr)
    · obtain rfl : n = m + 1 := by omega
      exact fun _ _ _ _ h => h
open Classical in
noncomputable def callW : Calls' := fun f a m => if h : ∃ r, ∃ n, callN code ext n f a m = some r then some (Classical.choose h) else none
theorem callW_some {f : Nat} {a : List AV} {m : Mem} {r : AV × Mem} : callW code ext f a m = some r ↔ ∃ n, callN code ext n f a m = some r := by
  unfold callW
  constructor
  · intro h
    split at h
    · rename_i hx
      obtain ⟨n, hn⟩ := Classical.choose_spec hx
      have : Classical.choose hx = r := by simpa using h
      exact ⟨n, this ▸ hn⟩
    · cases h
  · rintro ⟨n, hn⟩
    have hx : ∃ r, ∃ n, callN code ext n f a m = some r := ⟨r, n, hn⟩
    rw [dif_pos hx]
    obtain ⟨k, hk⟩ := Classical.choose_spec hx
    have h1 := callN_mono code ext (Nat.le_max_left n k) f a m r hn
    have h2 := callN_mono code ext (Nat.le_max_right n k) f a m _ hk
    rw [h1] at h2
    exact h2.symm
theorem Le_callW (n : Nat) : Le (callN code ext n) (callW code ext) := fun _ _ _ _ h => (callW_some code ext).2 ⟨n, h⟩
open Classical in
noncomputable def den (x : XCode) (s : St) : Option (XExit × St) := if h : ∃ r, ∃ n, exCode (callW code ext) n x s = some r then some (Classical.choose h) else none
theorem den_some {x : XCode} {s : St} {r} : den code ext x s = some r ↔ ∃ n, exCode (callW code ext) n x s = some r := by
  unfold den
  constructor
  · intro h
    split at h
    · rename_i hx
      obtain ⟨n, hn⟩ := Classical.choose_spec hx
      have : Classical.choose hx = r := by simpa using h
      exact ⟨n, this ▸ hn⟩
    · cases h
  · rintro ⟨n, hn⟩
    have hx : ∃ r, ∃ n, exCode (callW code ext) n x s = some r := ⟨r, n, hn⟩
    rw [dif_pos hx]
    obtain ⟨k, hk⟩ := Classical.choose_spec hx
    have h1 := exCode_mono (c := callW code ext) (d := callW code ext) (fun _ _ _ _ h => h) (Nat.le_max_left n k) x hn
    have h2 := exCode_mono (c := callW code ext) (d := callW code ext) (fun _ _ _ _ h => h) (Nat.le_max_right n k) x hk
    rw [h1] at h2
    exact h2.symm
theorem exShare_fin {s : St} {fn : Nat} {as : List AV} {r} (h : exShare (callW code ext) s fn as = some r) : ∃ n, exShare (callN code ext n) s fn as = some r := by
  unfold exShare at *
  dsimp only at *
  generalize AV.ren.renL (place (order 0 (AV.refs.refsL as) s.mem)) as = l at *
  generalize s.mem.pickAll (order 0 (AV.refs.refsL as) s.mem) = q at *
  cases hc : callW code ext fn l q with
  | none => simp [hc] at h
  | some p => obtain ⟨n, hn⟩ := (callW_some code ext).1 hc; simp only [hc] at h; exact ⟨n, by simp only [hn]; exact h⟩
theorem exOp_fin {s : St} {op : XOp} {r} (h : exOp (callW code ext) s op = some r) : ∃ n, exOp (callN code ext n) s op = some r := by
  have view : ∀ fn as, exView (callW code ext) s fn as = some r → ∃ n, exView (callN code ext n) s fn as = some r := by
    intro fn as h
    unfold exView at *
    cases ha : as.mapM (frz s.mem) with
    | none => simp [ha] at h
    | some l =>
      simp only [ha] at h ⊢
      cases hc : callW code ext fn l [] with
      | none => simp [hc] at h
      | some p => obtain ⟨n, hn⟩ := (callW_some code ext).1 hc; simp only [hc] at h; exact ⟨n, by simp only [hn]; exact h⟩
  have own : ∀ fn as, exOwn (callW code ext) s fn as = some r → ∃ n, exOwn (callN code ext n) s fn as = some r := by
    intro fn as h
    unfold exOwn at *
    cases ha : as.mapM (frz s.mem) with
    | none => simp [ha] at h
    | some l =>
      simp only [ha] at h ⊢
      cases hc : callW code ext fn l [] with
      | none => simp [hc] at h
      | some p => obtain ⟨n, hn⟩ := (callW_some code ext).1 hc; simp only [hc] at h; exact ⟨n, by simp only [hn]; exact h⟩
  have share : ∀ fn as, exShare (callW code ext) s fn as = some r → ∃ n, exShare (callN code ext n) s fn as = some r := fun fn as h => exShare_fin code ext h
  have peek : ∀ fn as, exPeek (callW code ext) s fn as = some r → ∃ n, exPeek (callN code ext n) s fn as = some r := by
    intro fn as h
    unfold exPeek at *
    dsimp only at *
    generalize AV.ren.renL (place (order 0 (AV.refs.refsL as) s.mem)) as = l at *
    cases hc : callW code ext fn l (s.mem.pickAll (order 0 (AV.refs.refsL as) s.mem)) with
    | none => simp [hc] at h
    | some p => obtain ⟨n, hn⟩ := (callW_some code ext).1 hc; simp only [hc] at h; exact ⟨n, by simp only [hn]; exact h⟩
  have look : ∀ fn as, exLook (callW code ext) s fn as = some r → ∃ n, exLook (callN code ext n) s fn as = some r := by
    intro fn as h
    unfold exLook at *
    dsimp only at *
    generalize AV.ren.renL (place (order 0 (AV.refs.refsL as) s.mem)) as = l at *
    cases hc : callW code ext fn l (s.mem.pickAll (order 0 (AV.refs.refsL as) s.mem)) with
    | none => simp [hc] at h
    | some p => obtain ⟨n, hn⟩ := (callW_some code ext).1 hc; simp only [hc] at h; exact ⟨n, by simp only [hn]; exact h⟩
  cases op with
  | call mode fn args =>
    cases mode with
    | view => exact view _ _ h
    | own => exact own _ _ h
    | share => exact share _ _ h
    | peek => exact peek _ _ h
    | look => exact look _ _ h
  | callV f args =>
    simp only [exOp] at h ⊢
    split at h
    · rename_i heq; exact share _ _ h
    · rename_i heq; exact share _ _ h
    · cases h
  | _ => exact ⟨0, h⟩
theorem exOne_fin {s : St} {o : XO} {r} (h : exOne (callW code ext) s o = some r) : ∃ n, exOne (callN code ext n) s o = some r := by
  unfold exOne at *
  have hgo : ∀ (g : AV × St → St), (exOp (callW code ext) s o.op).map g = some r → ∃ n, (exOp (callN code ext n) s o.op).map g = some r := by
    intro g hg
    cases hx : exOp (callW code ext) s o.op with
    | none => simp [hx] at hg
    | some x => obtain ⟨n, hn⟩ := exOp_fin code ext hx; exact ⟨n, by rw [hn]; rwa [hx] at hg⟩
  dsimp only at *
  split at h
  · exact hgo _ h
  · split at h
    · rename_i heq
      split at h
      · rename_i hcb; simp only [hcb, if_true]; exact hgo _ h
      · rename_i hcb; simp only [hcb, if_false]; exact ⟨0, h⟩
    · exact ⟨0, h⟩
    · cases h
theorem exOps_fin (l : List XO) : ∀ {s r}, exOps (callW code ext) s l = some r → ∃ n, exOps (callN code ext n) s l = some r := by
  induction l with
  | nil => intro s r h; exact ⟨0, h⟩
  | cons o l ih =>
    intro s r h
    simp only [exOps] at *
    cases hx : exOne (callW code ext) s o with
    | none => simp [hx] at h
    | some s' =>
      rw [hx] at h
      obtain ⟨n, hn⟩ := exOne_fin code ext hx
      obtain ⟨k, hk⟩ := ih h
      exact ⟨max n k, by rw [exOne_mono (callN_mono code ext (Nat.le_max_left n k)) hn]; exact exOps_mono (callN_mono code ext (Nat.le_max_right n k)) l hk⟩
theorem rounds_fin {f : St → Option (XExit × St)} {g : Nat → St → Option (XExit × St)} (hg : ∀ n m, n ≤ m → ∀ s r, g n s = some r → g m s = some r) (h : ∀ s r, f s = some r → ∃ n, g n s = some r) :
    ∀ (k : Nat) {s r}, rounds f k s = some r → ∃ n, rounds (g n) k s = some r := by
  intro k
  induction k with
  | zero => intro s r hr; simp [rounds] at hr
  | succ k ih =>
    intro s r hr
    simp only [rounds] at *
    cases hx : f s with
    | none => simp [hx] at hr
    | some p =>
      rw [hx] at hr
      obtain ⟨n, hn⟩ := h _ _ hx
      obtain ⟨e, s'⟩ := p
      cases e with
      | normal =>
        obtain ⟨j, hj⟩ := ih hr
        exact ⟨max n j, by rw [hg n _ (Nat.le_max_left n j) _ _ hn]; exact rounds_mono (hg j _ (Nat.le_max_right n j)) k k (Nat.le_refl k) hj⟩
      | exit id => exact ⟨n, by rw [hn]; exact hr⟩
      | ret => exact ⟨n, by rw [hn]; exact hr⟩
theorem exRange_fin {s : St} {f : Src} {ps keep : List Nat} {as b : XCode} {r} (h : exRange (callW code ext) s f ps keep as b = some r) : ∃ n, exRange (callN code ext n) s f ps keep as b = some r := by
  unfold exRange at *
  split at h
  · rename_i heq
    split at h
    · rename_i hst
      split at h
      · rename_i hx
        obtain ⟨n, hn⟩ := exShare_fin code ext hx
        exact ⟨n, by rw [if_pos hst, hn]; exact h⟩
      · cases h
    · cases h
  · cases h
theorem exCode_fin (k : Nat) (x : XCode) : ∀ {s r}, exCode (callW code ext) k x s = some r → ∃ n, exCode (callN code ext n) k x s = some r := by
  induction x with
  | skip => intro s r h; exact ⟨0, h⟩
  | region keep ops =>
    intro s r h
    simp only [exCode] at *
    cases hx : exOps (callW code ext) s ops with
    | none => simp [hx] at h
    | some s' => rw [hx] at h; obtain ⟨n, hn⟩ := exOps_fin code ext ops hx; exact ⟨n, by rw [hn]; exact h⟩
  | seq a b iha ihb =>
    intro s r h
    simp only [exCode] at *
    cases hx : exCode (callW code ext) k a s with
    | none => simp [hx] at h
    | some p =>
      rw [hx] at h
      obtain ⟨n, hn⟩ := iha hx
      obtain ⟨e, s'⟩ := p
      cases e with
      | normal =>
        obtain ⟨j, hj⟩ := ihb h
        exact ⟨max n j, by rw [exCode_mono (callN_mono code ext (Nat.le_max_left n j)) (Nat.le_refl k) a hn]; exact exCode_mono (callN_mono code ext (Nat.le_max_right n j)) (Nat.le_refl k) b hj⟩
      | exit id => exact ⟨n, by rw [hn]; exact h⟩
      | ret => exact ⟨n, by rw [hn]; exact h⟩
  | cond c a b iha ihb =>
    intro s r h
    simp only [exCode] at *
    split at h
    · split at h
      · rename_i ht; simp only [ht, if_true]; exact iha h
      · rename_i ht; simp only [ht, if_false]; exact ihb h
    · cases h
  | block id b ih =>
    intro s r h
    simp only [exCode] at *
    cases hx : exCode (callW code ext) k b s with
    | none => simp [hx] at h
    | some p => rw [hx] at h; obtain ⟨n, hn⟩ := ih hx; exact ⟨n, by rw [hn]; exact h⟩
  | loop keep b ih =>
    intro s r h
    simp only [exCode] at *
    exact rounds_fin (f := fun s => exCode (callW code ext) k b (s.tidy keep)) (g := fun n s => exCode (callN code ext n) k b (s.tidy keep)) (fun n m hnm s r hs => exCode_mono (callN_mono code ext hnm) (Nat.le_refl k) b hs) (fun s r hs => ih hs) k h
  | exit id => intro s r h; exact ⟨0, h⟩
  | ret => intro s r h; exact ⟨0, h⟩
  | rangeF f ps keep as b => intro s r h; simp only [exCode] at *; exact exRange_fin code ext h
theorem den_skip (s : St) : den code ext .skip s = some (.normal, s) := (den_some code ext).2 ⟨0, rfl⟩
theorem den_exit (id : Nat) (s : St) : den code ext (.exit id) s = some (.exit id, s) := (den_some code ext).2 ⟨0, rfl⟩
theorem den_ret (s : St) : den code ext .ret s = some (.ret, s) := (den_some code ext).2 ⟨0, rfl⟩
theorem opt_ext {α : Type} {a b : Option α} (h : ∀ r, a = some r ↔ b = some r) : a = b := by
  cases a with
  | none => cases b with
    | none => rfl
    | some y => exact absurd ((h y).2 rfl) (by simp)
  | some x => exact ((h x).1 rfl).symm
theorem den_region (keep : List Nat) (ops : List XO) (s : St) :
    den code ext (.region keep ops) s = (exOps (callW code ext) s ops).map fun s' => (.normal, { s' with env := s'.env.keep keep }) := by
  refine opt_ext fun r => ⟨fun h => ?_, fun h => (den_some code ext).2 ⟨0, h⟩⟩
  obtain ⟨n, hn⟩ := (den_some code ext).1 h
  exact hn
def andThen (p : Option (XExit × St)) (f : St → Option (XExit × St)) : Option (XExit × St) :=
  match p with
  | some (.normal, s) => f s
  | r => r
theorem den_seq (a b : XCode) (s : St) : den code ext (.seq a b) s = andThen (den code ext a s) (den code ext b) := by
  refine opt_ext fun r => ⟨fun h => ?_, fun h => ?_⟩
  · obtain ⟨n, hn⟩ := (den_some code ext).1 h
    simp only [exCode] at hn
    cases hx : exCode (callW code ext) n a s with
    | none => simp [hx] at hn
    | some p =>
      rw [hx] at hn
      rw [(den_some code ext).2 ⟨n, hx⟩]
      obtain ⟨e, s'⟩ := p
      cases e with
      | normal => exact (den_some code ext).2 ⟨n, hn⟩
      | exit id => exact hn
      | ret => exact hn
  · cases hx : den code ext a s with
    | none => simp [hx, andThen] at h
    | some p =>
      rw [hx] at h
      obtain ⟨n, hn⟩ := (den_some code ext).1 hx
      obtain ⟨e, s'⟩ := p
      cases e with
      | normal =>
        obtain ⟨k, hk⟩ := (den_some code ext).1 h
        refine (den_some code ext).2 ⟨max n k, ?_⟩
        simp only [exCode]
        rw [exCode_mono (c := callW code ext) (fun _ _ _ _ h => h) (Nat.le_max_left n k) a hn]
        exact exCode_mono (c := callW code ext) (fun _ _ _ _ h => h) (Nat.le_max_right n k) b hk
      | exit id => exact (den_some code ext).2 ⟨n, by simp only [exCode]; rw [hn]; exact h⟩
      | ret => exact (den_some code ext).2 ⟨n, by simp only [exCode]; rw [hn]; exact h⟩
theorem den_cond (c : Src) (a b : XCode) (s : St) (t : Bool) (h : s.env.ev c = .imm (.val (.bool t))) : den code ext (.cond c a b) s = if t then den code ext a s else den code ext b s := by
  refine opt_ext fun r => ⟨fun hr => ?_, fun hr => ?_⟩
  · obtain ⟨n, hn⟩ := (den_some code ext).1 hr
    simp only [exCode, h] at hn
    cases t
    · exact (den_some code ext).2 ⟨n, hn⟩
    · exact (den_some code ext).2 ⟨n, hn⟩
  · cases t
    · obtain ⟨n, hn⟩ := (den_some code ext).1 hr
      exact (den_some code ext).2 ⟨n, by simp only [exCode, h]; exact hn⟩
    · obtain ⟨n, hn⟩ := (den_some code ext).1 hr
      exact (den_some code ext).2 ⟨n, by simp only [exCode, h]; exact hn⟩
def blockOut (id : Nat) (p : Option (XExit × St)) : Option (XExit × St) :=
  match p with
  | some (.exit j, s) => if j = id then some (.normal, s) else some (.exit j, s)
  | r => r
theorem den_block (id : Nat) (b : XCode) (s : St) : den code ext (.block id b) s = blockOut id (den code ext b s) := by
  refine opt_ext fun r => ⟨fun h => ?_, fun h => ?_⟩
  · obtain ⟨n, hn⟩ := (den_some code ext).1 h
    simp only [exCode] at hn
    cases hx : exCode (callW code ext) n b s with
    | none => simp [hx] at hn
    | some p => rw [(den_some code ext).2 ⟨n, hx⟩]; rw [hx] at hn; exact hn
  · cases hx : den code ext b s with
    | none => simp [hx, blockOut] at h
    | some p =>
      obtain ⟨n, hn⟩ := (den_some code ext).1 hx
      rw [hx] at h
      exact (den_some code ext).2 ⟨n, by simp only [exCode]; rw [hn]; exact h⟩
theorem den_loop (keep : List Nat) (b : XCode) (s : St) : den code ext (.loop keep b) s = andThen (den code ext b (s.tidy keep)) (den code ext (.loop keep b)) := by
  refine opt_ext fun r => ⟨fun h => ?_, fun h => ?_⟩
  · obtain ⟨n, hn⟩ := (den_some code ext).1 h
    simp only [exCode] at hn
    cases n with
    | zero => simp [rounds] at hn
    | succ n =>
      simp only [rounds] at hn
      cases hx : exCode (callW code ext) (n + 1) b (s.tidy keep) with
      | none => simp [hx] at hn
      | some p =>
        rw [(den_some code ext).2 ⟨n + 1, hx⟩]
        rw [hx] at hn
        obtain ⟨e, s'⟩ := p
        cases e with
        | normal => exact (den_some code ext).2 ⟨n + 1, by simp only [exCode]; exact rounds_mono (fun _ _ h => h) n (n + 1) (Nat.le_succ n) hn⟩
        | exit id => exact hn
        | ret => exact hn
  · cases hx : den code ext b (s.tidy keep) with
    | none => simp [hx, andThen] at h
    | some p =>
      rw [hx] at h
      obtain ⟨n, hn⟩ := (den_some code ext).1 hx
      obtain ⟨e, s'⟩ := p
      cases e with
      | normal =>
        obtain ⟨k, hk⟩ := (den_some code ext).1 h
        refine (den_some code ext).2 ⟨max n k + 1, ?_⟩
        simp only [exCode, rounds] at hk ⊢
        rw [exCode_mono (c := callW code ext) (d := callW code ext) (fun _ _ _ _ h => h) (m := max n k + 1) (by omega) b hn]
        exact rounds_mono (fun s r hs => exCode_mono (c := callW code ext) (d := callW code ext) (fun _ _ _ _ h => h) (by omega) b hs) k (max n k) (by omega) hk
      | exit id =>
        refine (den_some code ext).2 ⟨n + 1, ?_⟩
        simp only [exCode, rounds]
        rw [exCode_mono (c := callW code ext) (d := callW code ext) (fun _ _ _ _ h => h) (m := n + 1) (by omega) b hn]
        exact h
      | ret =>
        refine (den_some code ext).2 ⟨n + 1, ?_⟩
        simp only [exCode, rounds]
        rw [exCode_mono (c := callW code ext) (d := callW code ext) (fun _ _ _ _ h => h) (m := n + 1) (by omega) b hn]
        exact h
def funOut (f : XFun) (p : Option (XExit × St)) : Option (AV × Mem) :=
  match p with
  | some (.normal, s) | some (.ret, s) => leave s f
  | _ => none
theorem callW_fun {fn : Nat} {f : XFun} (hf : code fn = some f) (as : List AV) (m : Mem) :
    callW code ext fn as m = funOut f (den code ext f.body { k := m.length, env := enter 0 as, mem := m }) := by
  refine opt_ext fun r => ⟨fun h => ?_, fun h => ?_⟩
  · obtain ⟨n, hn⟩ := (callW_some code ext).1 h
    cases n with
    | zero => simp [callN] at hn
    | succ n =>
      simp only [callN, hf, exFun] at hn
      cases hx : exCode (callN code ext n) n f.body { k := m.length, env := enter 0 as, mem := m } with
      | none => simp [hx] at hn
      | some p =>
        rw [(den_some code ext).2 ⟨n, exCode_mono (Le_callW code ext n) (Nat.le_refl n) f.body hx⟩]
        rw [hx] at hn
        exact hn
  · cases hx : den code ext f.body { k := m.length, env := enter 0 as, mem := m } with
    | none => simp [hx, funOut] at h
    | some p =>
      rw [hx] at h
      obtain ⟨n, hn⟩ := (den_some code ext).1 hx
      obtain ⟨k, hk⟩ := exCode_fin code ext n f.body hn
      refine (callW_some code ext).2 ⟨max n k + 1, ?_⟩
      simp only [callN, hf, exFun]
      rw [exCode_mono (callN_mono code ext (Nat.le_max_right n k)) (Nat.le_max_left n k) f.body hk]
      exact h
end
end Go.EX


set_option linter.unusedVariables false
set_option linter.unusedSimpArgs false
namespace Go.EX
section
variable {num : Names} {P : Program}
def exitOf : XExit → Exit
  | .normal => .normal
  | .exit id => .exit id
  | .ret => .ret
theorem tidy_later {C : Cx} {s : St} {a : Act} (hs : SRep num C s a) (keep : List Nat) : ∃ D, D.w = C.w ∧ Later num s.k C s.mem a D (s.tidy keep) a := by
  obtain ⟨D, hw, h1, h2, h3⟩ := tidy_rep hs keep
  exact ⟨D, hw, h1, h2, h3, rfl, fun lo _ h => h.step hs.mem h2⟩
theorem keep_later {C D : Cx} {m : Mem} {k : Nat} {s : St} {a a' : Act} (h : Later num k C m a D s a') (keep : List Nat) : Later num k C m a D { s with env := s.env.keep keep } a' :=
  ⟨⟨h.rep.mem, h.rep.env.keep keep, h.rep.k⟩, h.step, h.k, h.size, h.marks⟩
theorem bad_none {call : Calls'} {n : Nat} {xc : XCode} {s : St} (h : (.cond (.c .nilFunc) .skip .skip : XCode) = xc.wipe) : exCode call n xc s = none := by
  cases xc <;> simp only [XCode.wipe, reduceCtorEq, XCode.cond.injEq] at h
  obtain ⟨rfl, _, _⟩ := h
  rfl
theorem range_wp {call : Calls'} (hcall : CallOK num P call) (hL : ∀ a b ps N as bs, LoopOK P num a b ps N as bs → num.L a b ps N as bs) {f : Operand} {f' : Src} (hf : trSrc num f = some f') {ps : Array Tmp} {keep : List Nat} {as b : Code} {xa xb : XCode} {N : Nat}
    (hok : xa.still = true → xb.still = true → LoopOK P num as b ps.toList N xa xb) {s s' : St} {e : XExit} {a : Act} {C : Cx} {Q : Exit → Act → World → Prop} (h : exRange call s f' ps.toList keep xa xb = some (e, s')) (hs : SRep num C s a) (hN : N ≤ a.tmps.size)
    (hQ : ∀ D a', Later num s.k C s.mem a D s' a' → Q (exitOf e) a' D.w) : (Code.rangeFunc f ps as b).wpIn (fz none) 0 P Q a C.w := by
  unfold exRange at h
  split at h
  case h_2 => cases h
  rename_i it caps heq
  split at h
  case isFalse => cases h
  rename_i hst
  rw [Bool.and_eq_true] at hst
  split at h
  case h_2 => cases h
  rename_i rr s2 hx
  split at h
  case h_2 => cases h
  rename_i e2 p2 a2 b2 ho2
  cases h
  have hm := hs.mem
  have hlen := hm.len
  refine wpIn_rangeFunc fun fn _ => ?_
  have hfv := src_rep hs hf
  rw [heq] at hfv
  generalize hu : a.eval f = u at hfv
  cases hfv with
  | clo g _ vs hcl hcr =>
    generalize hR : ({ state := .ready, pending := none, fn := fn, tmps := a.tmps, params := ps, assign := as, body := b, defers := C.w.heap.size } : Loop) = R
    generalize hCa : ({ σ := C.σ, I := C.I, n := C.n, w := C.w.alloc (.deferred (some [])) } : Cx) = Ca
    have hsa : Step num s.k C s.mem Ca s.mem := by
      rw [← hCa]
      exact ext_step (w' := C.w.alloc (.deferred (some []))) (J := C.I) hm rfl rfl rfl (by simp) (fun c hc => by rw [alloc_get, if_neg (by omega)]) (fun _ h => h) (fun _ h => .inl h) (fun c hc => by have := hm.bd c hc; simp; omega) hs.k
    have hta : Tr some C Ca := by
      rw [← hCa]
      exact ext_tr (w' := C.w.alloc (.deferred (some []))) (J := C.I) hm (fun c hc => by rw [alloc_get, if_neg (by omega)]) fun _ h => h
    have hwa : Ca.w = C.w.alloc (.deferred (some [])) := by rw [← hCa]
    have hna : Ca.n = C.n := by rw [← hCa]
    have hsza : Ca.w.heap.size = C.w.heap.size + 1 := by rw [hwa]; simp
    have htr := more_tr hsa.rep rfl (.loop R)
    have hor : ORep num (Ca.more Ca.w (.loop R)) Ca.n (.loop (s.env.keep keep) ps.toList xa xb false) := by
      refine ⟨R, N, ?_, by rw [← hR]; rfl, by rw [← hR], by rw [← hR], by rw [← hR]; exact hN, by rw [← hR]; exact hL _ _ _ _ _ _ (hok hst.1 hst.2), fun p hp => ?_⟩
      · simp only [Cx.more, if_true]
        rw [alloc_get, if_pos rfl]
      · obtain ⟨t, _, rfl⟩ := List.mem_map.1 hp
        have hRt : R.tmps = a.tmps := by rw [← hR]
        rw [hRt]
        exact ((hs.env t).mono hta).mono htr
    have hs2 := more_step hsa.rep (k := s.k) rfl rfl rfl rfl (.loop R) _ hor hs.k
    generalize hC2 : Ca.more Ca.w (.loop R) = C2 at hs2 htr hor
    have hw2 : C2.w = (C.w.alloc (.deferred (some []))).alloc (.loop R) := by rw [← hC2, ← hwa]; rfl
    have hσ2 : C2.σ s.mem.length = C.w.heap.size + 1 := by
      rw [← hC2, hlen, ← hna]; simp only [Cx.more, if_true]; exact hsza
    have hn2 : C2.n = C.n + 1 := by rw [← hC2, ← hna]; rfl
    have hI2 : C2.I = C.I := by rw [← hC2, ← hCa]; rfl
    have hstep2 : Step num s.k C s.mem C2 (s.mem ++ [.loop (s.env.keep keep) ps.toList xa xb false]) := hsa.trans hs2
    have hs1 : SRep num C2 { k := s.mem.length + 1, env := s.env, mem := s.mem ++ [.loop (s.env.keep keep) ps.toList xa xb false] } a :=
      ⟨hs2.rep, (hs.env.mono hta).mono htr, by simp⟩
    have hl2 : (AV.yld s.mem.length :: caps).length = (#[Value.func (.yield (C2.σ s.mem.length)) #[] #[]] ++ vs).size := by
      rw [List.length_cons, Array.size_append, hcl]; simp; omega
    have hr2 : ∀ (j : Nat) (x : AV) (u : Value), (AV.yld s.mem.length :: caps)[j]? = some x → (#[Value.func (.yield (C2.σ s.mem.length)) #[] #[]] ++ vs)[j]? = some u → ARep num C2 x u := by
      intro j x u hx hu'
      cases j with
      | zero =>
        rw [Array.getElem?_append_left (by simp)] at hu'
        simp at hx hu'; subst hx hu'; exact .yld _ (by omega)
      | succ j =>
        rw [List.getElem?_cons_succ] at hx
        rw [Array.getElem?_append_right (by simp)] at hu'
        exact ((hcr j x u hx (by simpa using hu')).mono hta).mono htr
    obtain ⟨l, rv, mc, hc, hmc, hl1, hr1, hback⟩ := share_back hs1 hl2 hr2 hx
    obtain ⟨hcb, hcs⟩ := hcall.fn g _ _ rv mc _ _ hc hmc hl1 hr1
    obtain ⟨fn', e1, e3, e4⟩ := hcb
    obtain ⟨body, hb⟩ := Option.isSome_iff_exists.1 e4
    rw [hσ2] at hcs
    refine ⟨C.w.heap.size + 1, [{ target := .collected C.w.heap.size, args := #[] }], C2.w, { target := .fn (.func g) vs, args := #[] ++ #[Value.func (.yield (C.w.heap.size + 1)) #[] #[]] }, C2.w, g, #[Value.func (.yield (C.w.heap.size + 1)) #[] #[]] ++ vs, C2.w,
      by rw [hw2, ← hR]; exact run_enterLoop_outer _ _ _ _ _, by simp [resolve, Deferred.ofValue, hu, show ∀ v, a.eval (.const v) = v from fun _ => rfl], fun _ _ => trivial, by simp [invoke, callFunc, e1, e3, hb], fun h => (by cases h), ?_⟩
    refine CallsIn.mono (F := fz none) (n := 0 - 1) ((callsIn_wide (n := 0 - 1)).2 hcs) ?_
    rintro e' w' ⟨v, D, rfl, rfl, hstD, hrv⟩
    obtain ⟨E, hEw, hstE, henvE, _, hkE⟩ := hback v D hstD hrv
    rw [← hEw]
    obtain ⟨o0, ho0, _, hσE⟩ := hstE.same s.mem.length (Nat.lt_succ_self _) _ ho2 rfl
    rw [hσ2] at hσE
    obtain ⟨R2, N2, hR2, hst2, hpd2, _⟩ := hstE.rep.obj _ _ ho2
    rw [hσE] at hR2
    refine ⟨_, _, run_endLoop hR2 (by rw [hst2]; simp), ?_⟩
    split
    case h_2 c hc2 => rw [hpd2] at hc2; cases hc2
    have hdead := loop_step hstE.rep ho2 (ob := .loop { R2 with state := .exhausted }) (o' := .dead) trivial rfl (k := s.mem.length + 1) hstE.len
    rw [hσE] at hdead
    have hTr : Tr some E { E with w := E.w.putObj (C.w.heap.size + 1) (.loop { R2 with state := .exhausted }) } := by
      refine putObj_tr ?_ fun arr e fz h => by rw [hR2] at h; cases h
      rw [← hσE]
      exact hstE.rep.imm _ ⟨_, _, ho2, rfl, rfl⟩
    show Q .normal { a with defers := [{ target := .collected C.w.heap.size, args := #[] }] ++ a.defers } (E.w.putObj (C.w.heap.size + 1) (.loop { R2 with state := .exhausted }))
    refine hQ { E with w := E.w.putObj (C.w.heap.size + 1) (.loop { R2 with state := .exhausted }) } { a with defers := [{ target := .collected C.w.heap.size, args := #[] }] ++ a.defers } ⟨⟨hdead.rep, henvE.mono hTr, ?_⟩, hstep2.trans ((hstE.le ?_).trans (hdead.le ?_)), rfl, rfl, fun lo hlo hmk => ?_⟩
    · have h5 : s.mem.length + 1 ≤ s2.mem.length := hstE.len
      have := hs.k; simp; omega
    · have := hs.k; simp; omega
    · have := hs.k; omega
    · obtain ⟨rs, g1, g2, g3⟩ := hmk
      have hmk2 : Marked lo C2 ([{ target := .collected C.w.heap.size, args := #[] }] ++ a.defers) := by
        refine ⟨C.w.heap.size :: rs, by rw [g1]; rfl, List.nodup_cons.2 ⟨fun h => ?_, g2⟩, fun r hr => ?_⟩
        · have := (Array.getElem?_eq_some_iff.1 (g3 _ h).2.1).1; omega
        · rcases List.mem_cons.1 hr with rfl | hr
          · refine ⟨hlo, ?_, fun h => ?_⟩
            · rw [hw2, alloc_get, if_neg (by simp), alloc_get, if_pos rfl]
            · rw [hI2] at h; have := hm.bd _ h; omega
          · obtain ⟨q1, q2, q3⟩ := g3 r hr
            have := (Array.getElem?_eq_some_iff.1 q2).1
            refine ⟨q1, ?_, by rw [hI2]; exact q3⟩
            rw [hw2, alloc_get, if_neg (by simp; omega), alloc_get, if_neg (by omega)]
            exact q2
      exact (hmk2.step hs2.rep hstE).step hstE.rep hdead
theorem code_wp {ro : Option Nat} {call : Calls'} (hcall : CallOK num P call) (hmix : P.follows .mixedOrders = true) (hL : ∀ a b ps N as bs, LoopOK P num a b ps N as bs → num.L a b ps N as bs) {N n : Nat} : ∀ (c : Code) (xc : XCode) {s s' : St} {e : XExit} {a : Act} {C : Cx} {Q : Exit → Act → World → Prop}, tr P num N c = xc.wipe → drawsOk c xc = true → (ro = none ∨ xc.still = true) →
    exCode call n xc s = some (e, s') → SRep num C s a → N ≤ a.tmps.size → (∀ D a', Later num s.k C s.mem a D s' a' → Q (exitOf e) a' D.w) → c.wpIn (fz ro) 0 P Q a C.w := by
  intro c
  induction c with
  | skip =>
    intro xc s s' e a C Q htr _ _ h hs _ hQ
    cases xc <;> simp only [tr, XCode.wipe, reduceCtorEq] at htr
    cases h
    exact wpIn_skip (hQ C a (.refl hs))
  | exit id =>
    intro xc s s' e a C Q htr _ _ h hs _ hQ
    cases xc <;> simp only [tr, XCode.wipe, reduceCtorEq, XCode.exit.injEq] at htr
    subst htr
    cases h
    exact wpIn_exit (hQ C a (.refl hs))
  | ret =>
    intro xc s s' e a C Q htr _ _ h hs _ hQ
    cases xc <;> simp only [tr, XCode.wipe, reduceCtorEq] at htr
    cases h
    exact wpIn_ret (hQ C a (.refl hs))
  | region id ops draw =>
    intro xc s s' e a C Q htr hd hro h hs hN hQ
    cases xc <;> simp only [tr, XCode.wipe, reduceCtorEq, XCode.region.injEq, true_and] at htr
    rename_i keep xs
    simp only [exCode] at h
    cases hx : exOps call s xs with
    | none => rw [hx] at h; cases h
    | some s1 =>
      rw [hx] at h
      cases h
      exact region_wp hcall hmix htr hd hs hN hx fun D a' hl => hQ D a' (keep_later hl keep)
  | seq x y ihx ihy =>
    intro xc s s' e a C Q htr hd hro h hs hN hQ
    cases xc <;> simp only [tr, XCode.wipe, reduceCtorEq, XCode.seq.injEq] at htr
    rename_i x' y'
    simp only [drawsOk, Bool.and_eq_true] at hd
    simp only [exCode] at h
    cases hx : exCode call n x' s with
    | none => rw [hx] at h; cases h
    | some p =>
      obtain ⟨e1, s1⟩ := p
      rw [hx] at h
      refine wpIn_seq (ihx x' htr.1 hd.1 (hro.imp id fun h => (Bool.and_eq_true_iff.1 h).1) hx hs hN fun D a' hl => ?_)
      cases e1 with
      | normal =>
        simp only [exitOf, Exit.then]
        exact ihy y' htr.2 hd.2 (hro.imp id fun h => (Bool.and_eq_true_iff.1 h).2) h hl.rep (by rw [hl.size]; exact hN) fun E a'' hl' => hQ E a'' (hl.trans (by rw [hl.k] at hl'; exact hl'))
      | exit id => cases h; exact hQ D a' hl
      | ret => cases h; exact hQ D a' hl
  | cond o x y ihx ihy =>
    intro xc s s' e a C Q htr hd hro h hs hN hQ
    simp only [tr] at htr
    split at htr
    · rename_i o' ho
      cases xc <;> simp only [XCode.wipe, reduceCtorEq, XCode.cond.injEq] at htr
      rename_i o'' x' y'
      obtain ⟨rfl, h1, h2⟩ := htr
      simp only [drawsOk, Bool.and_eq_true] at hd
      simp only [exCode] at h
      split at h
      · rename_i t ht
        have hv := src_val hs ho ht
        refine wpIn_cond hv ?_
        cases t with
        | true => simp only [if_true] at h ⊢; exact ihx x' h1 hd.1 (hro.imp id fun h => (Bool.and_eq_true_iff.1 h).1) h hs hN hQ
        | false => simp only [Bool.false_eq_true, if_false] at h ⊢; exact ihy y' h2 hd.2 (hro.imp id fun h => (Bool.and_eq_true_iff.1 h).2) h hs hN hQ
      · cases h
    · rw [bad_none htr] at h; cases h
  | block id b ih =>
    intro xc s s' e a C Q htr hd hro h hs hN hQ
    cases xc <;> simp only [tr, XCode.wipe, reduceCtorEq, XCode.block.injEq] at htr
    rename_i id' b'
    obtain ⟨rfl, htr⟩ := htr
    simp only [drawsOk] at hd
    simp only [exCode] at h
    cases hx : exCode call n b' s with
    | none => rw [hx] at h; cases h
    | some p =>
      obtain ⟨e1, s1⟩ := p
      rw [hx] at h
      refine wpIn_block (ih b' htr hd hro hx hs hN fun D a' hl => ?_)
      cases e1 with
      | normal => cases h; exact hQ D a' hl
      | exit j =>
        simp only at h
        split at h
        · rename_i hj; cases h; simp only [exitOf, Exit.inBlock, hj, if_true]; exact hQ D a' hl
        · rename_i hj; cases h; simp only [exitOf, Exit.inBlock, hj, if_false]; exact hQ D a' hl
      | ret => cases h; exact hQ D a' hl
  | loop b ih =>
    intro xc s s' e a C Q htr hd hro h hs hN hQ
    cases xc <;> simp only [tr, XCode.wipe, reduceCtorEq, XCode.loop.injEq, true_and] at htr
    rename_i keep b'
    simp only [drawsOk] at hd
    simp only [exCode] at h
    have key : ∀ (m : Nat) (s : St) (a : Act) (C : Cx), rounds (fun s => exCode call n b' (s.tidy keep)) m s = some (e, s') → SRep num C s a → N ≤ a.tmps.size → (∀ D a', Later num s.k C s.mem a D s' a' → Q (exitOf e) a' D.w) → Code.roundsIn (fz ro) 0 P b Q m a C.w := by
      intro m
      induction m with
      | zero => intro s a C h; cases h
      | succ m ihm =>
        intro s a C h hs hN hQ
        simp only [rounds] at h
        obtain ⟨D0, hw, h0⟩ := tidy_later hs keep
        rw [roundsIn_succ, ← hw]
        cases hx : exCode call n b' (s.tidy keep) with
        | none => rw [hx] at h; cases h
        | some p =>
          obtain ⟨e1, s1⟩ := p
          rw [hx] at h
          refine ih b' htr hd hro hx h0.rep hN fun D a' hl => ?_
          rw [h0.k] at hl
          have hl := h0.trans hl
          cases e1 with
          | normal =>
            simp only [exitOf, Exit.then]
            exact ihm s1 a' D h hl.rep (by rw [hl.size]; exact hN) fun E a'' hl' => hQ E a'' (hl.trans (by rw [hl.k] at hl'; exact hl'))
          | exit id => cases h; exact hQ D a' hl
          | ret => cases h; exact hQ D a' hl
    exact wpIn_loop_rounds n (key n s a C h hs hN hQ)
  | scope b ih =>
    intro xc s s' e a C Q htr hd hro h hs hN hQ
    simp only [tr] at htr
    simp only [drawsOk] at hd
    refine wpIn_scope_straight (ih xc htr hd hro h hs hN fun D a' hl => ?_)
    have := hQ D a' hl
    cases e <;> exact this
  | label l =>
    intro xc s s' e a C Q htr _ _ h hs _ hQ
    cases xc <;> simp only [tr, XCode.wipe, reduceCtorEq] at htr
    cases h
    exact wpIn_label (hQ C a (.refl hs))
  | rangeFunc f ps x y =>
    intro xc s s' e a C Q htr hd hro h hs hN hQ
    simp only [tr] at htr
    split at htr
    · rename_i f' hf
      split at htr
      · rename_i hps
        cases xc <;> simp only [XCode.wipe, reduceCtorEq, XCode.rangeF.injEq, true_and] at htr
        rename_i f'' ps'' keep xa xb
        obtain ⟨rfl, rfl, ha, hb⟩ := htr
        simp only [drawsOk, Bool.and_eq_true] at hd
        rcases hro with rfl | hro
        · exact range_wp hcall hL hf (fun h1 h2 => ⟨ha, hb, hd.1, hd.2, h1, h2, hps⟩) h hs hN hQ
        · cases hro
      · rw [bad_none htr] at h; cases h
    · rw [bad_none htr] at h; cases h
  | _ =>
    intro xc s s' e a C Q htr _ _ h
    simp only [tr] at htr
    rw [bad_none htr] at h; cases h
structure FunOK (P : Program) (num : FuncId → Nat) (f : FuncId) (xf : XFun) : Prop where
  fn : ∃ fn c, P.funcs[f]? = some fn ∧ fn.name ≠ "runtime.NumGoroutine" ∧ fn.body = some c ∧ tr P num fn.ntmps c = xf.body.wipe ∧ drawsOk c xf.body = true ∧ fn.results.toList.map (trRes P) = xf.res ∧ (∀ t ty, ResultVar.cell t ty ∈ fn.results → known P ty = true)
def resKnown (P : Program) : ResultVar → Bool
  | .tmp _ => true
  | .cell _ ty => known P ty
theorem FunOK.of {num : FuncId → Nat} {f : FuncId} {xf : XFun} {fn : Func} (h : P.funcs[f]? = some fn) (hn : (fn.name == "runtime.NumGoroutine") = false) (ht : fn.body.map (tr P num fn.ntmps) = some xf.body.wipe) (hd : fn.body.map (drawsOk · xf.body) = some true)
    (hr : fn.results.toList.map (trRes P) = xf.res) (hk : fn.results.toList.all (resKnown P) = true) : FunOK P num f xf := by
  cases hb : fn.body with
  | none => rw [hb] at ht; cases ht
  | some c =>
    rw [hb] at ht hd
    refine ⟨fn, c, h, by simpa using hn, hb, Option.some.inj ht, Option.some.inj hd, hr, fun t ty hm => ?_⟩
    exact List.all_eq_true.1 hk _ (Array.mem_toList_iff.2 hm)
def resSem (tmps : Array Value) : ResultVar → Sem Value
  | .tmp t => pure (tmps.getD t undef)
  | .cell a t => do loadVar t (← asAddr (tmps.getD a undef))
theorem results_eq (fn : Func) (tmps : Array Value) : results fn tmps = (do let vs ← fn.results.mapM (resSem tmps); pure (if h : vs.size = 1 then vs[0] else .tuple vs)) := by
  rfl
theorem run_results {fn : Func} {tmps : Array Value} {C : Cx} {s : St} {vs : List AV} (hm : MRep num C s.mem) (he : ERep num C s.env tmps) (hk : ∀ t ty, ResultVar.cell t ty ∈ fn.results → known P ty = true) (h : (fn.results.toList.map (trRes P)).mapM (resOf s) = some vs) :
    ∃ v, (results fn tmps).run P C.w = .ok v C.w ∧ ARep num C (wrapRes vs) v := by
  have key : ∀ (l : List ResultVar) (vs : List AV), (∀ t ty, ResultVar.cell t ty ∈ l → known P ty = true) → (l.map (trRes P)).mapM (resOf s) = some vs →
      ∃ us : List Value, (l.mapM (resSem tmps)).run P C.w = .ok us C.w ∧ vs.length = us.length ∧ ∀ (j : Nat) (x : AV) (u : Value), vs[j]? = some x → us[j]? = some u → ARep num C x u := by
    intro l
    induction l with
    | nil => intro vs _ h; simp at h; subst h; exact ⟨[], by simp, rfl, fun j x u hx _ => by simp at hx⟩
    | cons r l ih =>
      intro vs hk h
      simp only [List.map_cons, List.mapM_cons, Option.bind_eq_bind, Option.pure_def] at h
      cases hr : resOf s (trRes P r) with
      | none => rw [hr] at h; simp at h
      | some x =>
        rw [hr] at h
        cases hrest : (l.map (trRes P)).mapM (resOf s) with
        | none => rw [hrest] at h; simp at h
        | some xs =>
          rw [hrest] at h
          simp at h
          subst h
          obtain ⟨us, h1, h2, h3⟩ := ih xs (fun t ty hm => hk t ty (List.mem_cons_of_mem _ hm)) hrest
          have hone : ∃ u, (resSem tmps r).run P C.w = .ok u C.w ∧ ARep num C x u := by
            cases r with
            | tmp t => simp only [trRes, resOf, Option.some.injEq] at hr; subst hr; exact ⟨tmps.getD t undef, by simp only [resSem, Sem.run_pure], he t⟩
            | cell t ty =>
              simp only [trRes, resOf] at hr
              obtain ⟨b, o, u, hv, h4, h5⟩ := run_loadVar (hk t ty (List.mem_cons_self ..)) hm (he t) hr
              refine ⟨u, ?_, h5⟩
              simp only [resSem, hv, asAddr, Sem.run_bind, Sem.run_pure, Result.andThen_ok, h4]
          obtain ⟨u, h4, h5⟩ := hone
          refine ⟨u :: us, ?_, by simp [h2], fun j y z hy hz => ?_⟩
          · rw [List.mapM_cons]
            simp [h4, h1]
          · cases j with
            | zero => simp at hy hz; subst hy; subst hz; exact h5
            | succ j => exact h3 j y z (by simpa using hy) (by simpa using hz)
  obtain ⟨us, h1, h2, h3⟩ := key fn.results.toList vs (fun t ty hm => hk t ty (Array.mem_toList_iff.1 hm)) h
  have hrun : (results fn tmps).run P C.w = .ok (if h : us.toArray.size = 1 then us.toArray[0] else .tuple us.toArray) C.w := by
    rw [results_eq, Array.mapM_eq_mapM_toList]
    simp [h1]
  refine ⟨_, hrun, ?_⟩
  cases vs with
  | nil =>
    have : us = [] := by simpa using h2.symm
    subst this
    exact .tup [] #[] rfl fun j x u hx _ => by simp at hx
  | cons x r =>
    cases us with
    | nil => simp at h2
    | cons u us =>
      cases r with
      | nil =>
        have : us = [] := by simpa using h2.symm
        subst this
        exact h3 0 x u rfl rfl
      | cons y r =>
        cases us with
        | nil => simp at h2
        | cons u' us =>
          simp only [wrapRes]
          rw [dif_neg (by simp)]
          exact .tup _ _ (by simpa using h2) fun j x u hx hu => h3 j x u hx (by simpa using hu)
theorem enter_get : ∀ (l : List AV) (i t : Nat), (enter i l).get t = if i ≤ t then (l[t - i]?).getD .junk else .junk
  | [], i, t => by simp [enter, Env.get]
  | x :: r, i, t => by
    simp only [enter, Env.get]
    by_cases h : t = i
    · subst h; simp
    · rw [if_neg h, enter_get r (i + 1) t]
      by_cases h' : i ≤ t
      · have h1 : i + 1 ≤ t := by omega
        have h2 : t - i = (t - (i + 1)) + 1 := by omega
        rw [if_pos h', if_pos h1, h2]; simp
      · rw [if_neg h', if_neg (by omega)]
theorem wpIn_conseq {F : Fence} {n : Nat} {c : Code} {Q Q' : Exit → Act → World → Prop} {a : Act} {w : World} (h : c.wpIn F n P Q a w) (hq : ∀ e a w, Q e a w → Q' e a w) : c.wpIn F n P Q' a w := Code.wpIn_mono hq h
theorem leaves_marks {fn : Func} {k : Nat} {C : Cx} {m m1 : Mem} {e : Env} {tmps : Array Value} {R : Ending → World → Prop} : ∀ {ds : List Deferred} {D : Cx}, Step num k C m D m1 → ERep num D e tmps → Marked C.w.heap.size D ds →
    (∀ D, Step num k C m D m1 → ERep num D e tmps → ∃ v, (results fn tmps).run P D.w = .ok v D.w ∧ R (.returned v) D.w) → LeavesInM Fence.wide 0 P fn tmps R ds .returning D.w := by
  intro ds
  induction ds with
  | nil => intro D hst hen _ h; exact h D hst hen
  | cons d ds ih =>
    intro D hst hen hmk h
    obtain ⟨rs, h1, h2, h3⟩ := hmk
    cases rs with
    | nil => cases h1
    | cons r rs =>
      simp only [List.map_cons, List.cons.injEq] at h1
      obtain ⟨rfl, rfl⟩ := h1
      obtain ⟨hr, hrs⟩ := List.nodup_cons.1 h2
      obtain ⟨g1, g2, g3⟩ := h3 r (List.mem_cons_self ..)
      have hc : ∀ arr e fz, D.w.heap[r]? ≠ some (.cells arr e fz) := fun arr e fz h => by rw [g2] at h; cases h
      have hown : ¬ Own D m1 r := fun ho => by
        rcases own_obj hst.rep ho with ⟨_, _, _, h⟩ | ⟨_, _, h⟩ | ⟨_, h⟩ <;> rw [g2] at h <;> cases h
      refine ⟨by simp, .inl ⟨r, D.w.putObj r (.deferred none), rfl, run_takeDeferred g2, ?_⟩⟩
      refine ih (D := { D with w := D.w.putObj r (.deferred none) }) (putObj_step hst g1 g3 hc hown) (hen.mono (putObj_tr g3 hc)) ⟨rs, rfl, hrs, fun q hq => ?_⟩ h
      obtain ⟨q1, q2, q3⟩ := h3 q (List.mem_cons_of_mem _ hq)
      exact ⟨q1, (World.putObj_heap_other fun h => hr (by rw [← h]; exact hq)).trans q2, q3⟩
theorem round_ok {call : Calls'} (hcall : CallOK num P call) (hmix : P.follows .mixedOrders = true) (hL : ∀ a b ps N as bs, LoopOK P num a b ps N as bs ↔ num.L a b ps N as bs) {n : Nat} {args : List AV} {m m' : Mem} {r : AV} {C : Cx} {l : Nat} {vals : Array Value}
    (h : exRound (exCode call n) args m = some (r, m')) (hm : MRep num C m) (hlen : args.length = vals.size + 1) (h0 : ∀ x, args[0]? = some x → ARep num C x (.func (.yield l) #[] #[]))
    (hr : ∀ (j : Nat) (x : AV) (u : Value), args[j + 1]? = some x → vals[j]? = some u → ARep num C x u) :
    ∃ fn tmps assign body, (Instr.yield l vals).run P C.w = .ok (.round l fn tmps assign body) C.w ∧
      RoundIn Fence.wide 0 P l fn tmps assign body C.w (fun e w' => ∃ v D, e = .returned v ∧ D.w = w' ∧ Step num m.length C m D m' ∧ ARep num D r v) := by
  unfold exRound at h
  split at h
  case h_2 => cases h
  rename_i id xs
  split at h
  case h_2 => cases h
  rename_i env ps as b ho
  split at h
  case isFalse => cases h
  rename_i hxs
  split at h
  case h_2 => cases h
  rename_i s1 hx1
  split at h
  case h_2 => cases h
  rename_i e1 p1 a1 b1 ho1
  split at h
  case h_2 => cases h
  rename_i s2 hx2
  split at h
  case h_2 => cases h
  rename_i e2 p2 a2 b2 ho2
  cases h
  have hy := h0 _ rfl
  cases hy with
  | yld _ hid =>
    have hidm : id < m.length := (List.getElem?_eq_some_iff.1 ho).1
    obtain ⟨R, N, hR, hst, hpd, hps, hN, hLo, hen⟩ := hm.obj id _ ho
    obtain ⟨t1, t2, d1, d2, l1, l2, hpN⟩ := (hL _ _ _ _ _ _).2 hLo
    have hxv : xs.length = vals.size := by simpa using hlen
    have hsz : vals.size = R.params.size := by rw [← hxv, hxs, ← hps]; simp
    refine ⟨R.fn, _, R.assign, R.body, run_yield hR hsz, ?_⟩
    have htm : (R.params.zip vals).foldl (fun tmps (x : Tmp × Value) => tmps.setIfInBounds x.1 x.2) R.tmps = (ps.zip vals.toList).foldl (fun t p => t.setIfInBounds p.1 p.2) R.tmps := by
      rw [← hps, ← Array.toList_zip, ← Array.foldl_toList]
    have hpl : ∀ p ∈ ps, p < N := fun p hp => by simpa using List.all_eq_true.1 hpN p hp
    have hen0 : ERep num C (env.enterAt ps xs) ((ps.zip vals.toList).foldl (fun t p => t.setIfInBounds p.1 p.2) R.tmps) :=
      enterAt_rep ps xs vals.toList (erep_of hen) (fun p hp => Nat.lt_of_lt_of_le (hpl p hp) hN) (by simp [hxv]) fun j x u hx hu => hr j x u (by simpa using hx) (by simpa using hu)
    generalize hq : (ps.zip vals.toList).foldl (fun t p => t.setIfInBounds p.1 p.2) R.tmps = tm at htm hen0
    have htsz : tm.size = R.tmps.size := by rw [← hq]; exact foldl_set_size _ _
    refine roundIn_of_wpIn (F := Fence.wide) (n := 0) trivial ?_
    rw [show ((R.params.zip vals).foldl (fun tmps (x : Tmp × Value) => match x with | (t, a) => tmps.setIfInBounds t a) R.tmps) = tm from htm]
    have hs0 : SRep num C { k := m.length, env := env.enterAt ps xs, mem := m } { tmps := tm, defers := [] } := ⟨hm, hen0, Nat.le_refl _⟩
    refine code_wp (ro := some (C.σ id)) hcall hmix (fun a b ps N as bs => (hL a b ps N as bs).1) R.assign as t1 d1 (.inr l1) hx1 hs0 (by rw [htsz]; exact hN) fun D1 c1 hl1 => ?_
    obtain ⟨_, _, _, hσ1⟩ := hl1.step.same id hidm _ ho1 rfl
    obtain ⟨R1, N1, hR1, hst1, hpd1, hps1, hN1, hLo1, hen1⟩ := hl1.rep.mem.obj id _ ho1
    have hbusy : ORep num { D1 with w := D1.w.putObj (D1.σ id) (.loop { R1 with state := .busy }) } id (.loop e1 p1 a1 b1 true) := by
      refine ⟨{ R1 with state := .busy }, N1, World.putObj_heap_same (Array.getElem?_eq_some_iff.1 hR1).1, rfl, hpd1, hps1, hN1, hLo1, fun p hp => (hen1 p hp).mono (putObj_tr (hl1.rep.mem.imm _ ⟨_, _, ho1, rfl, rfl⟩) fun arr e fz h => by rw [hR1] at h; cases h)⟩
    have hs1 := loop_step hl1.rep.mem ho1 hbusy rfl (k := m.length) (by have := hl1.rep.k; rw [hl1.k] at this; exact this)
    have hD1 : D1.w.heap[C.σ id]? = some (.loop R1) := by rw [← hσ1]; exact hR1
    rw [hσ1] at hs1
    refine ⟨_, run_beginRound hD1 hst1, ?_⟩
    have hk1 := hl1.rep.k
    rw [hl1.k] at hk1
    have hs2 : SRep num { D1 with w := D1.w.putObj (C.σ id) (.loop { R1 with state := .busy }) } { k := s1.k, env := s1.env, mem := s1.mem.set id (.loop e1 p1 a1 b1 true) } c1 :=
      ⟨hs1.rep, hl1.rep.env.mono (putObj_tr (by rw [← hσ1]; exact hl1.rep.mem.imm _ ⟨_, _, ho1, rfl, rfl⟩) fun arr e fz h => by rw [hD1] at h; cases h), by simp [hl1.k]; exact hk1⟩
    refine code_wp (ro := some (C.σ id)) hcall hmix (fun a b ps N as bs => (hL a b ps N as bs).1) R.body b t2 d2 (.inr l2) hx2 hs2 (by rw [hl1.size, htsz]; exact hN) fun D2 c2 hl2 => ?_
    have hl2k : s2.k = m.length := hl2.k.trans hl1.k
    obtain ⟨_, _, _, hσ2⟩ := hl2.step.same id (by show id < s1.k; rw [hl1.k]; exact hidm) _ ho2 rfl
    have hσ2' : D2.σ id = C.σ id := hσ2.trans hσ1
    obtain ⟨R2, N2, hR2, hst2, hpd2, hps2, hN2, hLo2, hen2⟩ := hl2.rep.mem.obj id _ ho2
    have hfree : ORep num { D2 with w := D2.w.putObj (D2.σ id) (.loop { R2 with state := .ready, pending := none }) } id (.loop e2 p2 a2 b2 false) := by
      refine ⟨{ R2 with state := .ready, pending := none }, N2, World.putObj_heap_same (Array.getElem?_eq_some_iff.1 hR2).1, rfl, rfl, hps2, hN2, hLo2, fun p hp => (hen2 p hp).mono (putObj_tr (hl2.rep.mem.imm _ ⟨_, _, ho2, rfl, rfl⟩) fun arr e fz h => by rw [hR2] at h; cases h)⟩
    have hk2 := hl2.rep.k
    rw [hl2k] at hk2
    have hs3 := loop_step hl2.rep.mem ho2 hfree rfl (k := m.length) hk2
    have hD2 : D2.w.heap[C.σ id]? = some (.loop R2) := by rw [← hσ2']; exact hR2
    rw [hσ2'] at hs3
    have hall : Step num m.length C m { D2 with w := D2.w.putObj (C.σ id) (.loop { R2 with state := .ready, pending := none }) } (s2.mem.set id (.loop e2 p2 a2 b2 false)) :=
      hl1.step.trans (hs1.trans ((hl2.step.le (by show m.length ≤ s1.k; rw [hl1.k]; exact Nat.le_refl _)).trans hs3))
    refine ⟨_, _, run_endRound none hD2, ?_⟩
    show ∃ (v : Value) (D : Cx), Ending.returned (.bool true) = .returned v ∧ D.w = D2.w.putObj (C.σ id) (.loop { R2 with state := .ready, pending := none }) ∧ _
    unfold Mem.trim
    split
    · exact ⟨.bool true, _, rfl, rfl, hall, .imm _ _ (.val _ rfl)⟩
    · have hp := pick_step hall.rep (k := m.length) (by simp; exact hk2) []
      exact ⟨.bool true, _, rfl, rfl, hall.trans hp, .imm _ _ (.val _ rfl)⟩
theorem fun_ok {call : Calls'} (hcall : CallOK num P call) (hmix : P.follows .mixedOrders = true) (hL : ∀ a b ps N as bs, LoopOK P num a b ps N as bs → num.L a b ps N as bs) {n : Nat} {f : FuncId} {xf : XFun} (hf : FunOK P num f xf) {args : List AV} {m m' : Mem} {r : AV} {C : Cx} {vals : Array Value} (h : exFun call n xf args m = some (r, m')) (hm : MRep num C m) (hl : args.length = vals.size)
    (hr : ∀ (j : Nat) (x : AV) (u : Value), args[j]? = some x → vals[j]? = some u → ARep num C x u) :
    Callable P f ∧ Calls P f vals C.w (fun e w' => ∃ v D, e = .returned v ∧ D.w = w' ∧ Step num m.length C m D m' ∧ ARep num D r v) := by
  obtain ⟨fn, c, h1, h2, h3, h4, h5, h6, h7⟩ := hf.fn
  refine ⟨⟨fn, h1, h2, by rw [h3]; rfl⟩, (callsIn_wide (n := 0)).1 (callsIn_of_wp_marks h1 h3 trivial ?_)⟩
  generalize ha : ({ tmps := vals ++ Array.replicate (fn.ntmps - vals.size) undef, defers := [] } : Act) = a
  have hN : fn.ntmps ≤ a.tmps.size := by rw [← ha]; simp; omega
  have hs : SRep num C { k := m.length, env := enter 0 args, mem := m } a := by
    refine ⟨hm, fun t => ?_, Nat.le_refl _⟩
    rw [enter_get]
    simp only [Nat.zero_le, if_true, Nat.sub_zero]
    cases hx : args[t]? with
    | none => exact .junk _
    | some x =>
      have ht : t < vals.size := by rw [← hl]; exact (List.getElem?_eq_some_iff.1 hx).1
      have : a.tmps.getD t undef = vals[t] := by
        rw [← ha]
        simp only [Array.getD_eq_getD_getElem?, Array.getElem?_append, if_pos ht]
        simp [ht]
      rw [this]
      exact hr t x vals[t] hx (by simp [ht])
  have hmk0 : Marked C.w.heap.size C a.defers := ⟨[], by rw [← ha]; rfl, List.nodup_nil, fun r hr => by cases hr⟩
  have hdone : ∀ {s : St}, leave s xf = some (r, m') → ∀ D a', Later num m.length C m a D s a' → LeavesInM Fence.wide 0 P fn a'.tmps (fun e w' => ∃ v D, e = .returned v ∧ D.w = w' ∧ Step num m.length C m D m' ∧ ARep num D r v) a'.defers .returning D.w := by
    intro s hlv D a' hlat
    refine leaves_marks hlat.step hlat.rep.env (hlat.marks _ (Nat.le_refl _) hmk0) fun D hst hen => ?_
    unfold leave at hlv
    cases hv : xf.res.mapM (resOf s) with
    | none => rw [hv] at hlv; cases hlv
    | some vs =>
      rw [hv] at hlv
      rw [← h6] at hv
      obtain ⟨v, hrun, hx⟩ := run_results hst.rep hen h7 hv
      refine ⟨v, hrun, v, ?_⟩
      simp only [Option.map_some] at hlv
      split at hlv
      · cases hlv
        exact ⟨D, rfl, rfl, hst, hx⟩
      · cases hlv
        have hst1 := pick_step hst.rep (k := s.k) hlat.rep.k (wrapRes vs).refs
        have hst' : Step num m.length D s.mem (D.pick (order s.k (wrapRes vs).refs s.mem)) (s.mem.pickAll (order s.k (wrapRes vs).refs s.mem)) := hst1.le (by rw [hlat.k]; exact Nat.le_refl _)
        exact ⟨D.pick (order s.k (wrapRes vs).refs s.mem), rfl, rfl, hst.trans hst', hx.tr (pick_tr _)⟩
  unfold exFun at h
  split at h
  · rename_i s hx
    exact wpIn_conseq (code_wp (ro := none) hcall hmix hL c xf.body h4 h5 (.inl rfl) hx hs hN (Q := fun e a' w => ∃ D, e = .normal ∧ D.w = w ∧ Later num m.length C m a D s a') fun D a' hlat => ⟨D, rfl, rfl, hlat⟩) fun e a' w ⟨D, h1, h2, h3⟩ => by
      subst h1 h2; exact hdone h D a' h3
  · rename_i s hx
    exact wpIn_conseq (code_wp (ro := none) hcall hmix hL c xf.body h4 h5 (.inl rfl) hx hs hN (Q := fun e a' w => ∃ D, e = .ret ∧ D.w = w ∧ Later num m.length C m a D s a') fun D a' hlat => ⟨D, rfl, rfl, hlat⟩) fun e a' w ⟨D, h1, h2, h3⟩ => by
      subst h1 h2; exact hdone h D a' h3
  · cases h
structure Runs (P : Program) (num : Names) (code : Nat → Option XFun) (ext : Calls') : Prop where
  mix : P.follows .mixedOrders = true
  fns : ∀ f xf, code (num f) = some xf → FunOK P num f xf
  ext : ExtOK num P ext
  nz : ∀ f, num f ≠ yieldNo
  yld : code yieldNo = none
  loops : ∀ a b ps N as bs, LoopOK P num a b ps N as bs ↔ num.L a b ps N as bs
theorem runs_callN {code : Nat → Option XFun} {ext : Calls'} (h : Runs P num code ext) : ∀ n, CallOK num P (callN code ext n)
  | 0 => ⟨fun f args m r m' C vals hc => (by cases hc), fun args m r m' C l vals hc => (by cases hc)⟩
  | n + 1 => by
    refine ⟨fun f args m r m' C vals hc hm hl hr => ?_, fun args m r m' C l vals hc hm hl h0 hr => ?_⟩
    · simp only [callN] at hc
      cases hf : code (num f) with
      | none => rw [hf] at hc; simp only [h.nz f, if_false] at hc; exact h.ext f args m r m' C vals hc hm hl hr
      | some xf => rw [hf] at hc; exact fun_ok (runs_callN h n) h.mix (fun a b ps N as bs => (h.loops a b ps N as bs).1) (h.fns f xf hf) hc hm hl hr
    · simp only [callN, h.yld, if_true] at hc
      exact round_ok (runs_callN h n) h.mix h.loops hc hm hl h0 hr
theorem runs_callW {code : Nat → Option XFun} {ext : Calls'} (h : Runs P num code ext) : CallOK num P (callW code ext) := by
  refine ⟨fun f args m r m' C vals hc hm hl hr => ?_, fun args m r m' C l vals hc hm hl h0 hr => ?_⟩
  · obtain ⟨n, hn⟩ := (callW_some code ext).1 hc
    exact (runs_callN h n).fn f args m r m' C vals hn hm hl hr
  · obtain ⟨n, hn⟩ := (callW_some code ext).1 hc
    exact (runs_callN h n).yld args m r m' C l vals hn hm hl h0 hr
theorem none_ok : ExtOK num P (fun _ _ _ => none) := fun f args m r m' C vals hc => by cases hc
end
end Go.EX

