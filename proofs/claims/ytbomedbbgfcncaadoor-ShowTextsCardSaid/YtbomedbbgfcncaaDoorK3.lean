import Derived.Test.YtbomedbbgfcncaaDoorK2
import Derived.LoopN
import Derived.StillTail
import Derived.OrdersIn
import Derived.TacticsIn
import Derived.OwnWalkIn
import Derived.RangeFuncRecord
import Derived.LoopNIn
import Derived.Scope
set_option linter.unusedVariables false
set_option linter.unusedSimpArgs false
namespace Go.EX
section
variable {num : Names} {P : Program}
variable {ty : TypeId} {pos : String} {after : Array Edge} {a : Act} {C : Cx} {s : St}
theorem parts_some {place : Nat → Option (Nat × Nat)} {ps : List (Nat × Operand)} {α : Type} {f : List (Nat × Nat × Src) → α} {y : α} (h : (trParts num place ps).map f = some y) : ∃ qs, trParts num place ps = some qs ∧ f qs = y := by
  simpa [Option.map_eq_some_iff] using h
theorem src_map {x : Operand} {α : Type} {f : Src → α} {y : α} (h : (trSrc num x).map f = some y) : ∃ z, trSrc num x = some z ∧ f z = y := by
  simpa [Option.map_eq_some_iff] using h
def Does (num : Names) (P : Program) (op : Op) (ty : TypeId) (pos : String) (after : Array Edge) (a : Act) (C : Cx) (s : St) (x : AV) (s' : St) : Prop :=
  Yields num P op ty pos after a C s x s' ∨ CallsTo num P op ty pos after a C s x s' ∨ GoesRound num P op ty pos after a C s x s'
theorem exOp_does {call : Calls'} (hcall : CallOK num P call) (hs : SRep num C s a) {op : Op} {x : XOp} (htr : trOp P num op = some x.wipe) {r : AV} {s' : St} (h : exOp call s x = some (r, s')) : Does num P op ty pos after a C s r s' := by
  cases op with
  | move o =>
    simp only [trOp] at htr
    obtain ⟨z, hz, hx⟩ := src_map htr
    cases x <;> simp only [XOp.wipe, XOp.mv.injEq, reduceCtorEq] at hx
    · subst hx; cases h; exact .inl (y_mv hs hz)
    · cases h
    · cases h
  | assign o =>
    simp only [trOp] at htr
    obtain ⟨z, hz, hx⟩ := src_map htr
    cases x <;> simp only [XOp.wipe, XOp.mv.injEq, reduceCtorEq] at hx
    · subst hx; cases h; exact .inl (y_assign hs hz)
    · cases h
    · cases h
  | pick c o1 o2 =>
    simp only [trOp] at htr
    split at htr
    · rename_i c' a' b' e1 e2 e3
      simp only [Option.some.injEq] at htr
      cases x <;> simp only [XOp.wipe, XOp.pick.injEq, reduceCtorEq] at htr
      obtain ⟨rfl, rfl, rfl⟩ := htr
      simp only [exOp] at h
      split at h
      · rename_i t ht
        cases h
        exact .inl (y_pick hs e1 e2 e3 ht)
      · cases h
    · cases htr
  | alloc t =>
    simp only [trOp] at htr
    split at htr
    · rename_i zs hz
      split at htr
      · rename_i hone
        split at htr
        · rename_i off hoff
          simp only [Option.some.injEq] at htr
          cases x <;> simp only [XOp.wipe, XOp.allocB.injEq, reduceCtorEq] at htr
          obtain ⟨rfl, rfl⟩ := htr
          cases h
          exact .inl (y_allocB hcall.seat hs hz hone hoff)
        · simp only [Option.some.injEq] at htr
          cases x <;> simp only [XOp.wipe, XOp.alloc.injEq, reduceCtorEq] at htr
          subst htr
          cases h
          exact .inl (y_alloc hs hz hone)
      · cases htr
    · cases htr
  | box t o =>
    simp only [trOp] at htr
    split at htr
    · have plain : ∀ (htr : (trSrc num o).map (XOp.box (P.cellsOf t)) = some x.wipe), Does num P (.box t o) ty pos after a C s r s' := by
        intro htr
        obtain ⟨z, hz, hx⟩ := src_map htr
        cases x <;> simp only [XOp.wipe, XOp.box.injEq, reduceCtorEq] at hx
        obtain ⟨rfl, rfl⟩ := hx
        simp only [exOp] at h
        cases hc : (s.env.ev z).cells with
        | none => simp [hc] at h
        | some cs => rw [hc] at h; cases h; exact .inl (y_box hs hz hc)
      split at htr
      · rename_i zs hzs
        split at htr
        · rename_i off hoff
          split at htr
          · rename_i hlen
            obtain ⟨z, hz, hx⟩ := src_map htr
            cases x <;> simp only [XOp.wipe, XOp.boxB.injEq, reduceCtorEq] at hx
            obtain ⟨rfl, rfl, rfl⟩ := hx
            simp only [exOp] at h
            cases hc : (s.env.ev z).cells with
            | none => simp [hc] at h
            | some cs =>
              rw [hc] at h
              dsimp only at h
              split at h
              · rename_i hcl
                split at h
                · rename_i hnil
                  cases h
                  exact .inl (y_boxB hcall.seat hs hz hc hoff (by omega) hnil)
                · cases h
              · cases h
          · cases htr
        · exact plain htr
      · exact plain htr
    · cases htr
  | build t ps =>
    simp only [trOp] at htr
    split at htr
    · cases htr
    · rename_i zs hz
      split at htr
      · cases htr
      · rename_i hone
        have hone' : zs.all oneCellV = true := by simpa using hone
        split at htr
        · rename_i fs ht
          split at htr
          · rename_i hk
            obtain ⟨qs, hq, hx⟩ := parts_some htr
            cases x <;> simp only [XOp.wipe, XOp.build.injEq, reduceCtorEq] at hx
            obtain ⟨rfl, rfl⟩ := hx
            simp only [exOp] at h
            cases hf : fillAll (imZ zs) (qs.map fun (o, n, x) => (o, n, s.env.ev x)) with
            | none => rw [hf] at h; cases h
            | some cs => rw [hf] at h; cases h; exact .inl (y_build hs hz hone' hq (.inl ⟨fs, ht, hk, rfl⟩) hf)
          · cases htr
        · rename_i n e ht
          split at htr
          · rename_i hk
            obtain ⟨qs, hq, hx⟩ := parts_some htr
            cases x <;> simp only [XOp.wipe, XOp.build.injEq, reduceCtorEq] at hx
            obtain ⟨rfl, rfl⟩ := hx
            simp only [exOp] at h
            cases hf : fillAll (imZ zs) (qs.map fun (o, n, x) => (o, n, s.env.ev x)) with
            | none => rw [hf] at h; cases h
            | some cs => rw [hf] at h; cases h; exact .inl (y_build hs hz hone' hq (.inr ⟨n, e, ht, hk, rfl⟩) hf)
          · cases htr
        · cases htr
  | buildSlice t len ps =>
    simp only [trOp] at htr
    split at htr
    · rename_i e ht
      split at htr
      · rename_i zs hz
        split at htr
        · rename_i hc
          simp only [Bool.and_eq_true, decide_eq_true_eq] at hc
          obtain ⟨⟨⟨⟨hk, hone⟩, hbig⟩, h0⟩, hzl⟩ := hc
          obtain ⟨qs, hq, hx⟩ := parts_some htr
          cases x <;> simp only [XOp.wipe, XOp.buildSlice.injEq, reduceCtorEq] at hx
          obtain ⟨rfl, rfl, rfl, rfl⟩ := hx
          simp only [exOp] at h
          cases hf : fillAll (imZ (copies len zs)) (qs.map fun (o, n, x) => (o, n, s.env.ev x)) with
          | none => rw [hf] at h; cases h
          | some cs => rw [hf] at h; cases h; exact .inl (y_buildSlice hs ht hz hk hone hbig h0 hzl hq hf)
        · cases htr
      · cases htr
    · cases htr
  | load t o =>
    simp only [trOp] at htr
    split at htr
    · rename_i hk
      obtain ⟨z, hz, hx⟩ := src_map htr
      cases x <;> simp only [XOp.wipe, XOp.load.injEq, reduceCtorEq] at hx
      obtain ⟨rfl, rfl⟩ := hx
      simp only [exOp] at h
      cases hl : loadAt s.mem (aggOf P t) (s.env.ev z) with
      | none => rw [hl] at h; cases h
      | some v => rw [hl] at h; cases h; exact .inl (y_load hs hk hz hl)
    · cases htr
  | store t o1 o2 =>
    simp only [trOp] at htr
    split at htr
    · rename_i hk
      split at htr
      · rename_i p' x' e1 e2
        simp only [Option.some.injEq] at htr
        cases x <;> simp only [XOp.wipe, XOp.store.injEq, reduceCtorEq] at htr
        obtain ⟨rfl, rfl, rfl⟩ := htr
        simp only [exOp] at h
        split at h
        · rename_i cs hc
          split at h
          · rename_i hn
            cases hst : storeAt s.mem (s.env.ev p') cs with
            | none => rw [hst] at h; cases h
            | some m => rw [hst] at h; cases h; exact .inl (y_store hs hk e1 e2 hc hn hst)
          · cases h
        · cases h
      · cases htr
    · cases htr
  | nilCheck o =>
    simp only [trOp] at htr
    obtain ⟨z, hz, hx⟩ := src_map htr
    cases x <;> simp only [XOp.wipe, XOp.nilCheck.injEq, reduceCtorEq] at hx
    subst hx
    simp only [exOp] at h
    split at h
    · rename_i hn; cases h; exact .inl (y_nilCheck hs hz hn)
    · cases h
  | binOp op t o1 o2 yt =>
    simp only [trOp] at htr
    have bin : ∀ (x' y' : Src), trSrc num o1 = some x' → trSrc num o2 = some y' → x.wipe = .bin op x' y' → Does num P (.binOp op t o1 o2 yt) ty pos after a C s r s' := by
      intro x' y' e1 e2 hx
      cases x <;> simp only [XOp.wipe, XOp.bin.injEq, reduceCtorEq] at hx
      obtain ⟨rfl, rfl, rfl⟩ := hx
      simp only [exOp] at h
      split at h
      · rename_i u v hu hv
        simp only [Option.map_eq_some_iff, Prod.mk.injEq] at h
        obtain ⟨q, hq, rfl, rfl⟩ := h
        exact .inl (y_bin hs e1 e2 hu hv hq)
      · cases h
    split at htr
    · rename_i e1 e2; exact bin _ _ e1 e2 (Option.some.inj htr).symm
    · rename_i e1 e2; exact bin _ _ e1 e2 (Option.some.inj htr).symm
    · rename_i x' y' ht e1 e2
      have hx := (Option.some.inj htr).symm
      cases x <;> simp only [XOp.wipe, XOp.binB.injEq, reduceCtorEq] at hx
      obtain ⟨rfl, rfl, rfl⟩ := hx
      simp only [exOp] at h
      split at h
      · rename_i u v hu hv
        simp only [Option.map_eq_some_iff, Prod.mk.injEq] at h
        obtain ⟨q, hq, rfl, rfl⟩ := h
        exact .inl (y_binB hs e1 e2 ht hu hv hq)
      · cases h
    · rename_i fs x' y' ht e1 e2
      split at htr
      · rename_i ks hf
        have hx := (Option.some.inj htr).symm
        cases x <;> simp only [XOp.wipe, XOp.eqCells.injEq, reduceCtorEq] at hx
        obtain ⟨rfl, rfl, rfl, rfl⟩ := hx
        simp only [exOp] at h
        split at h
        · rename_i xs ys h1 h2
          simp only [Option.map_eq_some_iff, Prod.mk.injEq] at h
          obtain ⟨b, hb, rfl, rfl⟩ := h
          exact .inl (y_eqCells (neg := false) hs e1 e2 hf h1 h2 hb)
        · cases h
      · rename_i ks hf
        have hx := (Option.some.inj htr).symm
        cases x <;> simp only [XOp.wipe, XOp.eqCells.injEq, reduceCtorEq] at hx
        obtain ⟨rfl, rfl, rfl, rfl⟩ := hx
        simp only [exOp] at h
        split at h
        · rename_i xs ys h1 h2
          simp only [Option.map_eq_some_iff, Prod.mk.injEq] at h
          obtain ⟨b, hb, rfl, rfl⟩ := h
          exact .inl (y_eqCells (neg := true) hs e1 e2 hf h1 h2 hb)
        · cases h
      · cases htr
    · rename_i d x' y' _ _ _ _ ht e1 e2
      split at htr
      · rename_i k hk
        have hx := (Option.some.inj htr).symm
        cases x <;> simp only [XOp.wipe, XOp.eqNil.injEq, reduceCtorEq] at hx
        obtain ⟨rfl, rfl, rfl⟩ := hx
        simp only [exOp, Option.map_eq_some_iff, Prod.mk.injEq] at h
        obtain ⟨b, hb, rfl, rfl⟩ := h
        exact .inl (y_eqNil (neg := false) hs e1 ht hk hb)
      · rename_i k hk
        have hx := (Option.some.inj htr).symm
        cases x <;> simp only [XOp.wipe, XOp.eqNil.injEq, reduceCtorEq] at hx
        obtain ⟨rfl, rfl, rfl⟩ := hx
        simp only [exOp, Option.map_eq_some_iff, Prod.mk.injEq] at h
        obtain ⟨b, hb, rfl, rfl⟩ := h
        exact .inl (y_eqNil (neg := true) hs e1 ht hk hb)
      · cases htr
    · cases htr
  | unOp op t o =>
    simp only [trOp] at htr
    obtain ⟨z, hz, hx⟩ := src_map htr
    cases x <;> simp only [XOp.wipe, XOp.un.injEq, reduceCtorEq] at hx
    obtain ⟨rfl, rfl⟩ := hx
    simp only [exOp] at h
    split at h
    · rename_i u hu
      cases hr : valUn op u with
      | none => rw [hr] at h; cases h
      | some q => rw [hr] at h; cases h; exact .inl (y_un hs hz hu hr)
    · cases h
  | convert src dst o =>
    simp only [trOp] at htr
    split at htr
    · rename_i j k z h1 h2 hz
      simp only [Option.some.injEq] at htr
      cases x <;> simp only [XOp.wipe, XOp.conv.injEq, reduceCtorEq] at htr
      obtain ⟨rfl, rfl⟩ := htr
      simp only [exOp] at h
      cases hi : intOf (s.env.ev z) with
      | none => rw [hi] at h; cases h
      | some i => rw [hi] at h; cases h; exact .inl (y_conv hs hz h1 h2 hi)
    · rename_i z h1 h2 hz
      simp only [Option.some.injEq] at htr
      cases x <;> simp only [XOp.wipe, XOp.convS.injEq, reduceCtorEq] at htr
      subst htr
      simp only [exOp] at h
      split at h
      · rename_i b hb; cases h; exact .inl (y_convS hs hz h1 h2 hb)
      · cases h
    · rename_i e z h1 h2 hz
      split at htr
      · rename_i he
        simp only [Option.some.injEq] at htr
        cases x <;> simp only [XOp.wipe, XOp.strOf.injEq, reduceCtorEq] at htr
        subst htr
        simp only [exOp, Option.map_eq_some_iff, Prod.mk.injEq] at h
        obtain ⟨b, hb, rfl, rfl⟩ := h
        exact .inl (y_strOf hs hz h1 h2 he hb)
      · cases htr
    · rename_i e z h1 h2 hz
      split at htr
      · rename_i he
        simp only [Option.some.injEq] at htr
        cases x <;> simp only [XOp.wipe, XOp.bytesOf.injEq, reduceCtorEq] at htr
        subst htr
        simp only [exOp] at h
        split at h
        · rename_i b hb; cases h; exact .inl (y_bytesOf hs hz h1 h2 he hb)
        · cases h
      · cases htr
    · cases htr
  | makeFunc fn first caps =>
    cases fn <;> simp only [trOp] at htr <;> first | (cases htr; done) | skip
    rename_i f
    split at htr
    · rename_i hfirst
      have : first = #[] := by simpa using hfirst
      subst this
      simp only [Option.map_eq_some_iff] at htr
      obtain ⟨cs, hcs, hx⟩ := htr
      cases x <;> simp only [XOp.wipe, XOp.mkClo.injEq, reduceCtorEq] at hx
      obtain ⟨rfl, rfl⟩ := hx
      cases h
      exact .inl (y_mkClo hs hcs)
    · cases htr
  | makeSlice t l c =>
    simp only [trOp] at htr
    split at htr
    · rename_i e ht
      split at htr
      · rename_i zs l' c' hz e1 e2
        split at htr
        · rename_i hc
          simp only [Bool.and_eq_true, decide_eq_true_eq] at hc
          obtain ⟨⟨⟨hk, hzl⟩, h0⟩, hone⟩ := hc
          simp only [Option.some.injEq] at htr
          cases x <;> simp only [XOp.wipe, XOp.makeSlice.injEq, reduceCtorEq] at htr
          obtain ⟨rfl, rfl, rfl, rfl, rfl⟩ := htr
          simp only [exOp] at h
          split at h
          · rename_i i j hi hj
            split at h
            · rename_i hb
              cases h
              exact .inl (y_makeSlice hs ht hz hk hone h0 hzl e1 e2 hi hj hb)
            · cases h
          · cases h
        · cases htr
      · cases htr
    · cases htr
  | slice t o lo hi mx =>
    cases mx with
    | some m =>
      cases lo with
      | some _ => simp [trOp] at htr
      | none => cases hi with
        | none => simp [trOp] at htr
        | some hh =>
          simp only [trOp] at htr
          split at htr
          · rename_i e z h' m' ht hz h1 h2
            split at htr
            · rename_i hk
              simp only [Option.some.injEq] at htr
              cases x <;> simp only [XOp.wipe, XOp.slice3.injEq, reduceCtorEq] at htr
              obtain ⟨rfl, rfl, rfl, rfl⟩ := htr
              simp only [exOp] at h
              cases hy : exSlice3 (P.cellsOf e) (s.env.ev z) (s.env.ev h') (s.env.ev m') with
              | none => rw [hy] at h; cases h
              | some y => rw [hy] at h; cases h; exact .inl (y_slice3 hs hz h1 h2 ht hk hy)
            · cases htr
          · cases htr
    | none =>
      simp only [trOp] at htr
      split at htr
      · rename_i e z lo' hi' ht hz hl hh
        split at htr
        · rename_i hk
          simp only [Option.some.injEq] at htr
          cases x <;> simp only [XOp.wipe, XOp.slice.injEq, reduceCtorEq] at htr
          obtain ⟨rfl, rfl, rfl, rfl⟩ := htr
          simp only [exOp] at h
          cases hy : exSlice (P.cellsOf e) (s.env.ev z) (lo'.map s.env.ev) (hi'.map s.env.ev) with
          | none => rw [hy] at h; cases h
          | some y => rw [hy] at h; cases h; exact .inl (y_slice hs hz hl hh ht hk hy)
        · cases htr
      · rename_i z lo' hi' ht hz hl hh
        simp only [Option.some.injEq] at htr
        cases x <;> simp only [XOp.wipe, XOp.sliceS.injEq, reduceCtorEq] at htr
        obtain ⟨rfl, rfl, rfl⟩ := htr
        simp only [exOp] at h
        split at h
        · rename_i b hb
          cases hbd : bounds b.size b.size (lo'.map s.env.ev) (hi'.map s.env.ev) with
          | none => rw [hbd] at h; cases h
          | some lh => obtain ⟨l, hh'⟩ := lh; rw [hbd] at h; cases h; exact .inl (y_sliceS hs hz hl hh ht hb hbd)
        · cases h
      · cases htr
  | fieldAddr t o f =>
    simp only [trOp] at htr
    split at htr
    · rename_i fs z ht hz
      split at htr
      · rename_i fd hf
        split at htr
        · rename_i hc
          simp only [Bool.and_eq_true, decide_eq_true_eq] at hc
          simp only [Option.some.injEq] at htr
          cases x <;> simp only [XOp.wipe, XOp.fieldA.injEq, reduceCtorEq] at htr
          obtain ⟨rfl, rfl⟩ := htr
          simp only [exOp] at h
          refine .inl ?_
          split at h
          · rename_i row o' heq; cases h; exact y_fieldA hs hz ht hf hc.1 hc.2 (by rw [heq])
          · rename_i id o' heq; cases h; exact y_fieldA hs hz ht hf hc.1 hc.2 (by rw [heq])
          · cases h
        · cases htr
      · cases htr
    · cases htr
  | field t o f =>
    simp only [trOp] at htr
    split at htr
    · rename_i fs z ht hz
      split at htr
      · rename_i fd hf
        split at htr
        · rename_i hc
          simp only [Option.some.injEq] at htr
          cases x <;> simp only [XOp.wipe, XOp.field.injEq, reduceCtorEq] at htr
          obtain ⟨rfl, rfl, rfl⟩ := htr
          simp only [exOp] at h
          split at h
          · rename_i cs heq
            cases hg : getCells (aggOf P fd.type) cs fd.offset with
            | none => rw [hg] at h; cases h
            | some y => rw [hg] at h; cases h; exact .inl (y_field hs hz ht hf hc heq hg)
          · cases h
        · cases htr
      · cases htr
    · cases htr
  | indexAddr t o i =>
    simp only [trOp] at htr
    split at htr
    · rename_i e z i' ht hz hi
      split at htr
      · rename_i hk
        simp only [Option.some.injEq] at htr
        cases x <;> simp only [XOp.wipe, XOp.idxA.injEq, reduceCtorEq] at htr
        obtain ⟨rfl, rfl, rfl⟩ := htr
        simp only [exOp] at h
        split at h
        · cases h
        · rename_i n hn
          refine .inl ?_
          split at h
          · rename_i row off len cap heq
            split at h
            · rename_i hb; cases h; exact y_idxA hs hz hi ht hk hn (by rw [heq]; simp only [hb, and_self, if_true])
            · cases h
          · rename_i id off sz len cap heq
            split at h
            · rename_i hb; cases h; exact y_idxA hs hz hi ht hk hn (by rw [heq]; simp only [hb, and_self, if_true])
            · cases h
          · cases h
      · cases htr
    · rename_i len e z i' ht hz hi
      split at htr
      · rename_i hk
        simp only [Option.some.injEq] at htr
        cases x <;> simp only [XOp.wipe, XOp.idxP.injEq, reduceCtorEq] at htr
        obtain ⟨rfl, rfl, rfl, rfl⟩ := htr
        simp only [exOp] at h
        split at h
        · cases h
        · rename_i n hn
          refine .inl ?_
          split at h
          · rename_i hb
            split at h
            · rename_i row o heq; cases h; exact y_idxP hs hz hi ht hk hn hb (by rw [heq])
            · rename_i id o heq; cases h; exact y_idxP hs hz hi ht hk hn hb (by rw [heq])
            · cases h
          · cases h
      · cases htr
    · cases htr
  | index t o i =>
    simp only [trOp] at htr
    split at htr
    · rename_i z i' ht hz hi
      simp only [Option.some.injEq] at htr
      cases x <;> simp only [XOp.wipe, XOp.idxS.injEq, reduceCtorEq] at htr
      obtain ⟨rfl, rfl⟩ := htr
      simp only [exOp] at h
      split at h
      · rename_i n b hn hb
        split at h
        · rename_i h0
          split at h
          · rename_i c hc; cases h; exact .inl (y_idxS hs hz hi ht hn hb h0 hc)
          · cases h
        · cases h
      · cases h
    · rename_i len e z i' ht hz hi
      split at htr
      · rename_i hk
        simp only [Option.some.injEq] at htr
        cases x <;> simp only [XOp.wipe, XOp.idxV.injEq, reduceCtorEq] at htr
        obtain ⟨rfl, rfl, rfl, rfl, rfl⟩ := htr
        simp only [exOp] at h
        split at h
        · cases h
        · rename_i n hn
          split at h
          · rename_i hb
            split at h
            · rename_i cs heq
              simp only [Option.map_eq_some_iff, Prod.mk.injEq] at h
              obtain ⟨v, hv, rfl, rfl⟩ := h
              exact .inl (y_idxV hs hz hi ht hk hn hb heq hv)
            · cases h
          · cases h
      · cases htr
    · cases htr
  | extract o i =>
    simp only [trOp] at htr
    obtain ⟨z, hz, hx⟩ := src_map htr
    cases x <;> simp only [XOp.wipe, XOp.extract.injEq, reduceCtorEq] at hx
    obtain ⟨rfl, rfl⟩ := hx
    simp only [exOp] at h
    split at h
    · rename_i vs hv
      cases hy : vs[i]? with
      | none => rw [hy] at h; cases h
      | some y => rw [hy] at h; cases h; exact .inl (y_extract hs hz hv hy)
    · cases h
  | call c =>
    simp only [trOp] at htr
    obtain ⟨callee, args, ats⟩ := c
    cases callee with
    | invoke => simp [trCall] at htr
    | builtin b =>
      obtain ⟨al⟩ := args
      obtain ⟨tl⟩ := ats
      simp only [trCall] at htr
      split at htr
      · rename_i o t
        split at htr
        · rename_i ht
          obtain ⟨z, hz, hx⟩ := src_map htr
          cases x <;> simp only [XOp.wipe, XOp.lenS.injEq, reduceCtorEq] at hx
          subst hx
          simp only [exOp] at h
          split at h
          · rename_i b hb; cases h; exact .inl (y_lenS hs hz ht hb)
          · cases h
        · rename_i e ht
          obtain ⟨z, hz, hx⟩ := src_map htr
          cases x <;> simp only [XOp.wipe, XOp.len.injEq, reduceCtorEq] at hx
          subst hx
          simp only [exOp, Option.map_eq_some_iff, Prod.mk.injEq] at h
          obtain ⟨n, hn, rfl, rfl⟩ := h
          exact .inl (y_len hs hz ht hn)
        · rename_i kt e ht
          obtain ⟨z, hz, hx⟩ := src_map htr
          cases x <;> simp only [XOp.wipe, XOp.lenM.injEq, reduceCtorEq] at hx
          subst hx
          exact .inl (y_lenM hs hz ht h)
        · cases htr
      · rename_i o1 o2 ts
        split at htr
        · rename_i z1 z2 e1 e2
          have hx := (Option.some.inj htr).symm
          cases x <;> simp only [XOp.wipe, XOp.minmax.injEq, reduceCtorEq] at hx
          obtain ⟨rfl, rfl, rfl⟩ := hx
          simp only [exOp] at h
          split at h
          · rename_i k m j n h1 h2; cases h; exact .inl (y_minmax (mn := true) hs e1 e2 h1 h2)
          · cases h
        · cases htr
      · rename_i o1 o2 ts
        split at htr
        · rename_i z1 z2 e1 e2
          have hx := (Option.some.inj htr).symm
          cases x <;> simp only [XOp.wipe, XOp.minmax.injEq, reduceCtorEq] at hx
          obtain ⟨rfl, rfl, rfl⟩ := hx
          simp only [exOp] at h
          split at h
          · rename_i k m j n h1 h2; cases h; exact .inl (y_minmax (mn := false) hs e1 e2 h1 h2)
          · cases h
        · cases htr
      · rename_i o t
        split at htr
        · rename_i e ht
          obtain ⟨z, hz, hx⟩ := src_map htr
          cases x <;> simp only [XOp.wipe, XOp.cap.injEq, reduceCtorEq] at hx
          subst hx
          simp only [exOp, Option.map_eq_some_iff, Prod.mk.injEq] at h
          obtain ⟨n, hn, rfl, rfl⟩ := h
          exact .inl (y_cap hs hz ht hn)
        · cases htr
      · rename_i o1 o2 t u
        split at htr
        · rename_i e d z1 z2 ht hu e1 e2
          split at htr
          · rename_i hc
            simp only [Bool.and_eq_true, decide_eq_true_eq] at hc
            have hx := (Option.some.inj htr).symm
            cases x <;> simp only [XOp.wipe, XOp.copy.injEq, reduceCtorEq] at hx
            obtain ⟨rfl, rfl, rfl⟩ := hx
            exact .inl (y_copy hs e1 e2 ht hc.1 h)
          · cases htr
        · cases htr
      · rename_i o t
        split at htr
        · rename_i e z1 ht e1
          split at htr
          · rename_i zs hz
            split at htr
            · rename_i hc
              simp only [Bool.and_eq_true, decide_eq_true_eq] at hc
              obtain ⟨⟨⟨hk, hzl⟩, h0⟩, hone⟩ := hc
              have hx := (Option.some.inj htr).symm
              cases x <;> simp only [XOp.wipe, XOp.clear.injEq, reduceCtorEq] at hx
              obtain ⟨rfl, rfl, rfl⟩ := hx
              exact .inl (y_clear hs e1 ht hz hk hone h0 hzl h)
            · cases htr
          · cases htr
        · cases htr
      · rename_i o1 o2 t u
        split at htr
        · rename_i e d z1 z2 ht hu e1 e2
          split at htr
          · rename_i hc
            simp only [Bool.and_eq_true, decide_eq_true_eq] at hc
            obtain ⟨⟨⟨⟨⟨hk, h0⟩, hb0⟩, hz⟩, hd⟩, hu8⟩ := hc
            have hx := (Option.some.inj htr).symm
            cases x <;> simp only [XOp.wipe, XOp.append.injEq, reduceCtorEq] at hx
            · obtain ⟨rfl, rfl, rfl, rfl⟩ := hx
              exact .inl (y_appendX hs ht hu hd hk h0 hb0 hz e1 e2 h)
            · obtain ⟨rfl, rfl, rfl, rfl⟩ := hx
              exact .inl (y_appendK hs ht hu hd hk h0 hb0 hz e1 e2 h)
            · obtain ⟨hc1, hb1, rfl, rfl⟩ := hx
              rw [← hb1] at hu8
              have hu8' : isU8 P e = true := by simpa using hu8
              exact .inl (y_appendS hcall.byte hs ht hu hd hk h0 hb0 hz hc1.symm hb1.symm hu8' e1 e2 h)
          · cases htr
        · cases htr
      · cases htr
    | value fo =>
      cases fo with
      | func f =>
        simp only [trCall, Option.map_eq_some_iff] at htr
        obtain ⟨ys, hy, hx⟩ := htr
        cases x <;> simp only [XOp.wipe, XOp.call.injEq, reduceCtorEq] at hx
        rename_i mode fn as
        obtain ⟨_, rfl, rfl⟩ := hx
        simp only [exOp] at h
        cases mode with
        | view => exact .inr (.inl (y_view hcall hs hy h))
        | own => exact .inr (.inl (y_own hcall hs hy h))
        | share => exact .inr (.inl (y_share hcall hs hy h))
        | peek =>
          obtain ⟨rfl, _, h⟩ := peek_share h
          exact .inr (.inl (y_share hcall hs hy h))
        | look => exact .inr (.inl (y_share hcall hs hy (look_share h)))
      | tmp t =>
        simp only [trCall] at htr
        split at htr
        · rename_i f' as hf hy
          have hx := (Option.some.inj htr).symm
          cases x <;> simp only [XOp.wipe, XOp.callV.injEq, reduceCtorEq] at hx
          obtain ⟨rfl, rfl⟩ := hx
          simp only [exOp] at h
          split at h
          · rename_i fn caps heq; exact .inr (.inl (y_callV hcall hs hf hy heq h))
          · rename_i id heq; exact .inr (.inr (y_yield hcall hs hf hy heq h))
          · cases h
        · cases htr
      | const v =>
        simp only [trCall] at htr
        split at htr
        · rename_i f' as hf hy
          have hx := (Option.some.inj htr).symm
          cases x <;> simp only [XOp.wipe, XOp.callV.injEq, reduceCtorEq] at hx
          obtain ⟨rfl, rfl⟩ := hx
          simp only [exOp] at h
          split at h
          · rename_i fn caps heq; exact .inr (.inl (y_callV hcall hs hf hy heq h))
          · rename_i id heq; exact .inr (.inr (y_yield hcall hs hf hy heq h))
          · cases h
        · cases htr
      | global g => simp [trCall, trSrc] at htr
  | makeMap t r =>
    simp only [trOp] at htr
    split at htr
    · rename_i kt e r' ht hr
      have hx := (Option.some.inj htr).symm
      cases x <;> simp only [XOp.wipe, XOp.makeMap.injEq, reduceCtorEq] at hx
      case litA => cases h
      subst hx
      simp only [exOp] at h
      cases hint : (‹Option Src› : Option Src) with
      | none =>
        rw [hint] at h hr
        cases h
        exact .inl (y_makeMap hs ht hr fun x hx => by cases hx)
      | some z =>
        rw [hint] at h hr
        simp only at h
        split at h
        · rename_i i hi
          cases h
          exact .inl (y_makeMap hs ht hr fun x hx => by cases hx; exact ⟨i, hi⟩)
        · cases h
    · cases htr
  | lookup t m k ok =>
    simp only [trOp] at htr
    split at htr
    · rename_i kt e m' k' ht hm hk
      split at htr
      · rename_i kind zs agg hkt hz
        have hx := (Option.some.inj htr).symm
        cases x <;> simp only [XOp.wipe, XOp.lookup.injEq, reduceCtorEq] at hx
        case litL => cases h
        obtain ⟨rfl, rfl, rfl, rfl, rfl, rfl⟩ := hx
        exact .inl (y_lookup hs ht hm hk hkt hz h)
      · cases htr
    · cases htr
  | mapUpdate t m k v | insert t m k v =>
    simp only [trOp] at htr
    split at htr
    · rename_i kt e m' k' v' ht hm hk hv
      split at htr
      · rename_i kind hkt
        have hx := (Option.some.inj htr).symm
        cases x <;> simp only [XOp.wipe, XOp.mapSet.injEq, reduceCtorEq] at hx
        case litI => cases h
        obtain ⟨rfl, rfl, rfl, rfl⟩ := hx
        first
          | exact .inl (y_mapSet hs ht hm hk hv hkt h (.inl rfl))
          | exact .inl (y_mapSet hs ht hm hk hv hkt h (.inr rfl))
      · cases htr
    · cases htr
  | _ => simp [trOp] at htr
end
end Go.EX


set_option linter.unusedVariables false
set_option linter.unusedSimpArgs false
namespace Go.EX
section
variable {num : Names} {P : Program}
abbrev fz (ro : Option Nat) : Fence := { Fence.wide with round := ro }
def Marked (lo : Nat) (C : Cx) (ds : List Deferred) : Prop :=
  ∃ rs : List Nat, ds = rs.map (fun r => { target := .collected r, args := #[] }) ∧ rs.Nodup ∧ ∀ r ∈ rs, lo ≤ r ∧ C.w.heap[r]? = some (.deferred (some [])) ∧ ¬ C.I r
theorem own_obj {C : Cx} {m : Mem} (hm : MRep num C m) {b : Nat} (h : Own C m b) : (∃ arr e fz, C.w.heap[b]? = some (.cells arr e fz)) ∨ (∃ es k, C.w.heap[b]? = some (.map es k)) ∨ ∃ R, C.w.heap[b]? = some (.loop R) := by
  obtain ⟨id, o, ho, hlv, rfl⟩ := h
  have h1 := hm.obj id o ho
  cases o with
  | flat => obtain ⟨arr, e, h2, _⟩ := h1; exact .inl ⟨arr, e, _, h2⟩
  | rich => obtain ⟨arr, e, h2, _⟩ := h1; exact .inl ⟨arr, e, _, h2⟩
  | fix => obtain ⟨arr, e, h2, _⟩ := h1; exact .inl ⟨arr, e, _, h2⟩
  | map => obtain ⟨es, k, h2, _⟩ := h1; exact .inr (.inl ⟨es, k, h2⟩)
  | loop => obtain ⟨R, N, h2, _⟩ := h1; exact .inr (.inr ⟨R, h2⟩)
  | text => obtain ⟨arr, e, h2, _⟩ := h1; exact .inl ⟨arr, e, _, h2⟩
  | dead => cases hlv
theorem Marked.step {lo k : Nat} {C D : Cx} {m m' : Mem} {ds : List Deferred} (h : Marked lo C ds) (hm : MRep num C m) (hst : Step num k C m D m') : Marked lo D ds := by
  obtain ⟨rs, h1, h2, h3⟩ := h
  refine ⟨rs, h1, h2, fun r hr => ?_⟩
  obtain ⟨h4, h5, h6⟩ := h3 r hr
  have hlt := (Array.getElem?_eq_some_iff.1 h5).1
  have hno : ¬ Own C m r := fun ho => by
    rcases own_obj hm ho with ⟨_, _, _, h⟩ | ⟨_, _, h⟩ | ⟨_, h⟩ <;> rw [h5] at h <;> cases h
  refine ⟨h4, by rw [hst.keep r hlt hno]; exact h5, fun hI => ?_⟩
  rcases hst.imm' r hI with h | h | h
  · exact h6 h
  · omega
  · exact hno h
structure Later (num : Names) (k : Nat) (C : Cx) (m : Mem) (a : Act) (D : Cx) (s' : St) (a' : Act) : Prop where
  rep : SRep num D s' a'
  step : Step num k C m D s'.mem
  k : s'.k = k
  size : a'.tmps.size = a.tmps.size
  marks : ∀ lo, lo ≤ C.w.heap.size → Marked lo C a.defers → Marked lo D a'.defers
theorem Later.trans {k : Nat} {C D E : Cx} {m : Mem} {s s' : St} {a a' a'' : Act} (h : Later num k C m a D s a') (g : Later num k D s.mem a' E s' a'') : Later num k C m a E s' a'' :=
  ⟨g.rep, h.step.trans g.step, g.k, g.size.trans h.size, fun lo hle hl => g.marks lo (Nat.le_trans hle h.step.size) (h.marks lo hle hl)⟩
theorem Later.refl {C : Cx} {s : St} {a : Act} (hs : SRep num C s a) : Later num s.k C s.mem a C s a := ⟨hs, .refl hs.mem hs.k, rfl, rfl, fun _ _ h => h⟩
theorem put_size (a : Act) (d : Option Tmp) (v : Value) : (a.put d v).tmps.size = a.tmps.size := by cases d <;> simp [Act.put]
theorem put_defers (a : Act) (d : Option Tmp) (v : Value) : (a.put d v).defers = a.defers := by cases d <;> rfl
def St.bind (s : St) (d : Option Nat) (v : AV) : St := match d with
  | some d => { s with env := (d, v) :: s.env }
  | none => s
theorem bind_mem (s : St) (d : Option Nat) (v : AV) : (s.bind d v).mem = s.mem := by cases d <;> rfl
theorem bind_k (s : St) (d : Option Nat) (v : AV) : (s.bind d v).k = s.k := by cases d <;> rfl
theorem bind_later {k N : Nat} {C D : Cx} {m : Mem} {s : St} {a : Act} {d : Option Nat} {x : AV} {v : Value} (hm : MRep num C m) (hN : N ≤ a.tmps.size) (hd : dstOk N d = true) (hst : Step num k C m D s.mem) (he : ERep num D s.env a.tmps) (hx : ARep num D x v) (hk : s.k = k) :
    Later num k C m a D (s.bind d x) (a.put d v) := by
  refine ⟨⟨by rw [bind_mem]; exact hst.rep, ?_, by rw [bind_k, bind_mem, hk]; exact hst.len⟩, by rw [bind_mem]; exact hst, by rw [bind_k, hk], put_size .., fun lo _ h => by rw [put_defers]; exact h.step hm hst⟩
  cases d with
  | none => exact he
  | some d =>
    have : d < a.tmps.size := Nat.lt_of_lt_of_le (by simpa [dstOk] using hd) hN
    exact he.put this hx
theorem does_wp {ro : Option Nat} {op : Op} {ty : TypeId} {pos : String} {after : Array Edge} {a : Act} {C : Cx} {s s' : St} {x : AV} (hm : MRep num C s.mem) (h : Does num P op ty pos after a C s x s') {N : Nat} (hN : N ≤ a.tmps.size) {d : Option Tmp} (hd : dstOk N d = true) (g : Option (Nat × Bool))
    {K : Act → World → Prop} {Q : Exit → Act → World → Prop} (hK : ∀ D a', Later num s.k C s.mem a D (s'.bind d x) a' → (∃ v, a' = a.put d v) → K a' D.w) : Oper.wpIn (fz ro) 0 P ⟨d, op, ty, pos, after, g⟩ a C.w K Q := by
  have hnd : ∀ c, op ≠ .defer c := by
    rintro c rfl
    have hbad : ∀ (r : Result Next), (execOp a.eval ⟨d, .defer c, ty, pos, after, g⟩).run P C.w = r → (∀ dd w, r ≠ .ok (.defer dd) w) → (∀ x w, r ≠ .halt x w) → False := by
      intro r hr h1 h2
      simp only [execOp, Sem.run_bind] at hr
      cases hq : (resolve a.eval c ty).run P C.w with
      | ok v w => rw [hq] at hr; simp only [Result.andThen, Sem.run_pure] at hr; exact h1 _ _ hr.symm
      | halt x w => rw [hq] at hr; simp only [Result.andThen] at hr; exact h2 _ _ hr.symm
    rcases h with ⟨v, D, hrun, _⟩ | ⟨f, vals, hrun, _⟩ | ⟨l, fn, tmps, as, bd, hrun, _⟩
    · rcases hrun d g with h | ⟨h, _⟩ <;> exact hbad _ h (fun _ _ => by simp) (fun _ _ => by simp)
    · exact hbad _ (hrun d g) (fun _ _ => by simp) (fun _ _ => by simp)
    · exact hbad _ (hrun d g) (fun _ _ => by simp) (fun _ _ => by simp)
  unfold Oper.wpIn
  refine ⟨fun _ _ => trivial, ?_⟩
  rw [Oper.semAt_eq _ _ _ hnd]
  rcases h with ⟨v, D, hrun, hst, he, hx, hk⟩ | ⟨f, vals, hrun, hc⟩ | ⟨l, fn, tmps, as, bd, hrun, hc⟩
  · rcases hrun d g with h | ⟨h, rfl⟩ <;> rw [h]
    · rw [Oper.uponIn_value]; exact hK D _ (bind_later hm hN hd hst he hx hk) ⟨_, rfl⟩
    · rw [Oper.uponIn_skip]; exact hK D _ (bind_later hm hN hd hst he hx hk) ⟨_, rfl⟩
  · rw [hrun d g, Oper.uponIn_enter]
    refine ⟨fun h => (by cases h), ?_⟩
    refine CallsIn.mono (R := fun e w' => ∃ v D, e = .returned v ∧ D.w = w' ∧ Step num s.k C s.mem D s'.mem ∧ ERep num D s'.env a.tmps ∧ ARep num D x v ∧ s'.k = s.k) (callsIn_wide.2 hc) fun e w' ⟨v, D, he', hw, hst, he, hx, hk⟩ => ?_
    subst he' hw
    exact hK D _ (bind_later hm hN hd hst he hx hk) ⟨_, rfl⟩
  · rw [hrun d g, Oper.uponIn_round]
    refine ⟨fun h => (by cases h), ?_⟩
    have hc' : RoundIn (fz ro) (0 - 1) P l fn tmps as bd C.w (fun e w' => ∃ v D, e = .returned v ∧ D.w = w' ∧ Step num s.k C s.mem D s'.mem ∧ ERep num D s'.env a.tmps ∧ ARep num D x v ∧ s'.k = s.k) := hc
    refine hc'.mono fun e w' ⟨v, D, he', hw, hst, he, hx, hk⟩ => ?_
    subst he' hw
    exact hK D _ (bind_later hm hN hd hst he hx hk) ⟨_, rfl⟩
theorem trOper_spec {N : Nat} {ops : Array Oper} {o : Oper} {x : XO} (h : trOper P num N ops o = some x) : trOp P num o.op = some x.op ∧ trGuard ops o.guard = some x.guard ∧ x.dst = o.dst ∧ dstOk N o.dst = true ∧ ∀ (t : Nat) (b : Bool), x.guard = some (t, b) → t < N := by
  unfold trOper at h
  split at h
  · rename_i y g h1 h2
    split at h
    · cases h; rename_i hd; simp only [Bool.and_eq_true] at hd; exact ⟨h1, h2, rfl, hd.1, fun t b hg => by simp only at hg; subst hg; simpa [dstOk] using hd.2⟩
    · cases h
  · cases h
theorem exOne_bind {call : Calls'} {s : St} {o : XO} {s' : St} (h : exOne call s o = some s') :
    (∃ v s1, exOp call s o.op = some (v, s1) ∧ s' = s1.bind o.dst v ∧ (o.guard = none ∨ ∃ t b, o.guard = some (t, b) ∧ s.env.get t = .imm (.val (.bool b)))) ∨
    (s' = s.bind o.dst (.tup []) ∧ ∃ t b, o.guard = some (t, b) ∧ ((∃ c, s.env.get t = .imm (.val (.bool c)) ∧ c ≠ b) ∨ s.env.get t = .tup [])) := by
  unfold exOne at h
  dsimp only at h
  have go : ∀ {s'}, (exOp call s o.op).map (fun (v, s') => match o.dst with | some d => { s' with env := (d, v) :: s'.env } | none => s') = some s' → ∃ v s1, exOp call s o.op = some (v, s1) ∧ s' = s1.bind o.dst v := by
    intro s' h
    cases hx : exOp call s o.op with
    | none => rw [hx] at h; cases h
    | some p =>
      obtain ⟨v, s1⟩ := p
      rw [hx] at h
      refine ⟨v, s1, rfl, ?_⟩
      simp only [Option.map_some, Option.some.injEq] at h
      rw [← h]
      cases o.dst <;> rfl
  split at h
  · rename_i hg
    obtain ⟨v, s1, h1, h2⟩ := go h
    exact .inl ⟨v, s1, h1, h2, .inl hg⟩
  · rename_i t b hg
    split at h
    · rename_i c hc
      split at h
      · rename_i hcb
        obtain ⟨v, s1, h1, h2⟩ := go h
        exact .inl ⟨v, s1, h1, h2, .inr ⟨t, b, hg, by rw [hc, hcb]⟩⟩
      · rename_i hcb
        refine .inr ⟨?_, t, b, hg, .inl ⟨c, hc, hcb⟩⟩
        simp only [Option.some.injEq] at h
        rw [← h]
        cases o.dst <;> rfl
    · rename_i hc
      refine .inr ⟨?_, t, b, hg, .inr hc⟩
      simp only [Option.some.injEq] at h
      rw [← h]
      cases o.dst <;> rfl
    · cases h
theorem wanted_of {ops : Array Oper} {o : Oper} {a : Act} {C : Cx} {s : St} (hs : SRep num C s a) {t : Nat} {b : Bool} {j : Nat} {c : Bool} (hg : o.guard = some (j, b)) (hj : (ops[j]?).bind (·.dst) = some t) (ht : t < a.tmps.size) (hc : s.env.get t = .imm (.val (.bool c))) :
    Region.wanted o (yielded ops a.tmps) = (c == b) := by
  have h1 := hs.env t
  rw [hc] at h1
  have h2 := rep_val h1
  have h3 : a.tmps[t]? = some (.bool c) := by
    simp only [Array.getD, ht, dite_true] at h2
    rw [Array.getElem?_eq_getElem ht]; exact congrArg some h2
  simp only [Region.wanted, hg, yielded, hj, Option.bind_some, h3]
  cases c <;> cases b <;> rfl
theorem unwanted_of {ops : Array Oper} {o : Oper} {a : Act} {C : Cx} {s : St} (hs : SRep num C s a) {t : Nat} {b : Bool} {j : Nat} (hg : o.guard = some (j, b)) (hj : (ops[j]?).bind (·.dst) = some t) (ht : t < a.tmps.size) (hc : s.env.get t = .tup []) :
    Region.wanted o (yielded ops a.tmps) = false := by
  have h1 := hs.env t
  rw [hc] at h1
  have h3 : a.tmps[t]? = some (.tuple #[]) := by
    generalize hv : a.tmps.getD t undef = v at h1
    cases h1 with
    | tup _ vs hl _ =>
      have : vs = #[] := by simpa using hl.symm
      subst this
      simp only [Array.getD, ht, dite_true] at hv
      rw [Array.getElem?_eq_getElem ht]; exact congrArg some hv
  simp only [Region.wanted, hg, yielded, hj, Option.bind_some, h3]
  cases b <;> rfl
theorem skip_rep (C : Cx) : ARep num C (.tup []) undef := .tup [] #[] rfl fun j x u hx _ => by simp at hx
theorem one_wp {ro : Option Nat} {call : Calls'} (hcall : CallOK num P call) {N : Nat} {ops : Array Oper} {o : Oper} {x : XO} (htr : trOper P num N ops o = some x.wipe) {a : Act} {C : Cx} {s s' : St} (hs : SRep num C s a) (hN : N ≤ a.tmps.size) (h : exOne call s x = some s')
    {K : Act → World → Prop} {Q : Exit → Act → World → Prop} (hK : ∀ D a', Later num s.k C s.mem a D s' a' → (∃ v, a' = a.put o.dst v) → K a' D.w) :
    if Region.wanted o (yielded ops a.tmps) then o.wpIn (fz ro) 0 P a C.w K Q else (∀ f, o.about P C.w a.eval = some f → (fz ro).fn f) ∧ K (a.put o.dst undef) C.w := by
  obtain ⟨h1, h2, h3, h4, hgd⟩ := trOper_spec htr
  have hguard : x.wipe.guard = x.guard := rfl
  have hdst : x.wipe.dst = x.dst := rfl
  rw [hguard] at h2
  rw [hdst] at h3
  have wgd : ∀ (t : Nat) (b : Bool), x.guard = some (t, b) → ∃ j, o.guard = some (j, b) ∧ (ops[j]?).bind (·.dst) = some t := by
    intro t b hx
    rw [hx] at h2
    unfold trGuard at h2
    split at h2
    · cases h2
    · rename_i j b' hjb
      split at h2
      · rename_i t' ht
        simp only [Option.some.injEq, Prod.mk.injEq] at h2
        obtain ⟨rfl, rfl⟩ := h2
        exact ⟨_, hjb, ht⟩
      · cases h2
  rcases exOne_bind h with ⟨v, s1, hx, rfl, hg⟩ | ⟨rfl, t, b, hg, hc⟩
  · have hw : Region.wanted o (yielded ops a.tmps) = true := by
      rcases hg with hg | ⟨t, b, hg, hc⟩
      · rw [hg] at h2
        unfold trGuard at h2
        split at h2
        · simp [Region.wanted, *]
        · split at h2 <;> simp at h2
      · obtain ⟨j, hj, hd⟩ := wgd t b hg
        rw [wanted_of hs hj hd (Nat.lt_of_lt_of_le (hgd t b hg) hN) hc]; simp
    rw [if_pos hw]
    have := does_wp (ro := ro) hs.mem (exOp_does (ty := o.type) (pos := o.pos) (after := o.after) hcall hs h1 hx) hN h4 o.guard (K := K) (Q := Q)
    obtain ⟨d, op, ty, pos, after, g⟩ := o
    dsimp only at *
    refine this fun D a' hl hp => hK D a' ?_ hp
    rw [h3]
    exact hl
  · obtain ⟨j, hj, hd⟩ := wgd t b hg
    have hw : Region.wanted o (yielded ops a.tmps) = false := by
      rcases hc with ⟨c, hc, hne⟩ | hc
      · rw [wanted_of hs hj hd (Nat.lt_of_lt_of_le (hgd t b hg) hN) hc]; simpa using hne
      · exact unwanted_of hs hj hd (Nat.lt_of_lt_of_le (hgd t b hg) hN) hc
    rw [hw]
    simp only [Bool.false_eq_true, if_false]
    refine ⟨fun _ _ => trivial, hK C _ ?_ ⟨_, rfl⟩⟩
    rw [h3]
    exact bind_later hs.mem hN h4 (.refl hs.mem hs.k) hs.env (skip_rep C) rfl
theorem list_wp {ro : Option Nat} {call : Calls'} (hcall : CallOK num P call) {N : Nat} {ops : Array Oper} {Q : Exit → Act → World → Prop} : ∀ (l : List Oper) (xs : List XO) {a : Act} {C : Cx} {s s' : St}, trOps P num N ops l = xs.map XO.wipe → SRep num C s a → N ≤ a.tmps.size → exOps call s xs = some s' →
    (∀ D a', Later num s.k C s.mem a D s' a' → Q .normal a' D.w) → wpListIn (fz ro) 0 P ops Q l a C.w
  | [], xs, a, C, s, s', htr, hs, _, h, hQ => by
    cases xs with
    | nil => cases h; exact hQ C a (.refl hs)
    | cons x r => simp [trOps] at htr
  | o :: l, xs, a, C, s, s', htr, hs, hN, h, hQ => by
    simp only [trOps] at htr
    cases ho : trOper P num N ops o with
    | none =>
      rw [ho] at htr
      cases xs with
      | nil => simp at htr
      | cons x r =>
        simp only [List.map_cons, List.cons.injEq] at htr
        have hb : x.wipe = badOp := htr.1.symm
        have h1 : x.op = .callV (.c (.bool true)) [] ∧ x.guard = none := by
          obtain ⟨d, op, g⟩ := x
          simp only [XO.wipe, badOp, XO.mk.injEq] at hb
          obtain ⟨_, h2, h3⟩ := hb
          refine ⟨?_, h3⟩
          cases op <;> simp only [XOp.wipe, reduceCtorEq] at h2
          exact h2
        simp only [exOps] at h
        unfold exOne at h
        simp only [h1.1, h1.2, exOp, Env.ev, Option.map_none, Option.bind_none] at h
        cases h
    | some y =>
      rw [ho] at htr
      cases xs with
      | nil => simp at htr
      | cons x r =>
        simp only [List.map_cons, List.cons.injEq] at htr
        obtain ⟨h1, h2⟩ := htr
        subst h1
        simp only [exOps] at h
        cases hx : exOne call s x with
        | none => rw [hx] at h; cases h
        | some s1 =>
          rw [hx] at h
          simp only [Option.bind_some] at h
          have := one_wp hcall ho hs hN hx (ro := ro) (Q := Q) (K := wpListIn (fz ro) 0 P ops Q l) fun D a' hl _ =>
            list_wp hcall l r h2 hl.rep (by rw [hl.size]; exact hN) h fun E a'' hl' => hQ E a'' (hl.trans (by rw [hl.k] at hl'; exact hl'))
          unfold wpListIn
          exact this
theorem wpAnyIn_of_seq {F : Fence} {n : Nat} {md : Region.Mode} {ops : Array Oper} {Q' : Exit → Act → World → Prop} : ∀ (l : List Oper) (k : Nat) (listed : Array Bool) (a : Act) (w : World), (∀ j, l[j]? = ops[k + j]?) →
    Region.seqB md ops l.length k listed = true → wpListIn F n P ops Q' l a w → wpAnyIn F n P md ops Q' l.length listed a w
  | [], _, _, _, _, _, hB, h => ⟨by simpa [Region.seqB] using hB, h⟩
  | o :: l, k, listed, a, w, hl, hB, h => by
    have h0 : ops[k]? = some o := by simpa using (hl 0).symm
    simp only [List.length_cons, Region.seqB, Bool.and_eq_true, decide_eq_true_eq] at hB
    refine ⟨fun h1 => (by rw [hB.1] at h1; cases h1), fun i hi => ?_⟩
    rw [hB.1] at hi
    have hik : i = k := by simpa using hi
    subst hik
    have hw : wpOpIn F n P ops Q' i (wpListIn F n P ops Q' l) a w := by unfold wpOpIn; simp only [h0]; exact h
    exact wpOpIn_mono (fun a' w' h' => wpAnyIn_of_seq l (i + 1) _ a' w' (fun j => by have := hl (j + 1); simpa [Nat.add_assoc, Nat.add_comm 1 j] using this) hB.2 h') hw
end
end Go.EX


set_option linter.unusedVariables false
set_option linter.unusedSimpArgs false
namespace Go.EX
theorem ev_congr {s t : Env} {y : Src} (he : ∀ n ∈ srcTmp y, t.get n = s.get n) : t.ev y = s.ev y := by
  cases y with
  | t n => exact he n (by simp [srcTmp])
  | c v => rfl
  | f n => rfl
theorem evO_congr {s t : Env} {y : Option Src} (he : ∀ n ∈ srcTmpO y, t.get n = s.get n) : y.map t.ev = y.map s.ev := by
  cases y with
  | none => rfl
  | some y => exact congrArg some (ev_congr he)
theorem evL_congr {s t : Env} {l : List Src} (he : ∀ n ∈ l.flatMap srcTmp, t.get n = s.get n) : l.map t.ev = l.map s.ev :=
  List.map_congr_left fun y hy => ev_congr fun n hn => he n (List.mem_flatMap.2 ⟨y, hy, hn⟩)
theorem evP_congr {s t : Env} {l : List (Nat × Nat × Src)} (he : ∀ n ∈ l.flatMap (fun p => srcTmp p.2.2), t.get n = s.get n) : l.map (fun (o, n, x) => (o, n, t.ev x)) = l.map fun (o, n, x) => (o, n, s.ev x) :=
  List.map_congr_left fun y hy => by
    have := ev_congr (s := s) (t := t) (y := y.2.2) fun n hn => he n (List.mem_flatMap.2 ⟨y, hy, hn⟩)
    simp only [this]
def In (K : Nat → Prop) (x : AV) : Prop := ∀ id ∈ x.refs, K id
def InL (K : Nat → Prop) (l : List AV) : Prop := ∀ x ∈ l, In K x
theorem in_agg {K : Nat → Prop} {l : List AV} : In K (.agg l) ↔ InL K l := by
  constructor
  · intro h x hx id hid; exact h id (by simp only [AV.refs]; exact refsL_mem.2 ⟨x, hx, hid⟩)
  · intro h id hid; simp only [AV.refs] at hid; obtain ⟨x, hx, hid⟩ := refsL_mem.1 hid; exact h x hx id hid
theorem in_tup {K : Nat → Prop} {l : List AV} : In K (.tup l) ↔ InL K l := by
  constructor
  · intro h x hx id hid; exact h id (by simp only [AV.refs]; exact refsL_mem.2 ⟨x, hx, hid⟩)
  · intro h id hid; simp only [AV.refs] at hid; obtain ⟨x, hx, hid⟩ := refsL_mem.1 hid; exact h x hx id hid
theorem in_clo {K : Nat → Prop} {n : Nat} {l : List AV} : In K (.clo n l) ↔ InL K l := by
  constructor
  · intro h x hx id hid; exact h id (by simp only [AV.refs]; exact refsL_mem.2 ⟨x, hx, hid⟩)
  · intro h id hid; simp only [AV.refs] at hid; obtain ⟨x, hx, hid⟩ := refsL_mem.1 hid; exact h x hx id hid
theorem in_imm {K : Nat → Prop} {x : IV} : In K (.imm x) := fun id hid => by simp [AV.refs] at hid
theorem in_junk {K : Nat → Prop} : In K .junk := fun id hid => by simp [AV.refs] at hid
theorem in_optr {K : Nat → Prop} {i o : Nat} : In K (.optr i o) ↔ K i := by simp [In, AV.refs]
theorem in_osl {K : Nat → Prop} {i a b c : Nat} {d : Option Nat} : In K (.osl i a b c d) ↔ K i := by simp [In, AV.refs]
theorem in_omap {K : Nat → Prop} {i : Nat} : In K (.omap i) ↔ K i := by simp [In, AV.refs]
theorem in_ev {K : Nat → Prop} {e : Env} {y : Src} (h : ∀ n ∈ srcTmp y, In K (e.get n)) : In K (e.ev y) := by
  cases y with
  | t n => exact h n (by simp [srcTmp])
  | c v => exact in_imm
  | f n => exact in_clo.2 fun x hx => by cases hx
theorem InL.get {K : Nat → Prop} {l : List AV} (h : InL K l) {j : Nat} {x : AV} (hx : l[j]? = some x) : In K x := h x (List.mem_of_getElem? hx)
theorem InL.mapImm {K : Nat → Prop} {α : Type} (l : List α) (f : α → IV) : InL K (l.map fun x => .imm (f x)) := fun x hx => by obtain ⟨y, _, rfl⟩ := List.mem_map.1 hx; exact in_imm
theorem in_setAll {K : Nat → Prop} : ∀ (xs l : List AV) (off : Nat), InL K l → InL K xs → InL K (setAll l off xs)
  | [], l, off, hl, _ => hl
  | x :: xs, l, off, hl, hx => by
    simp only [setAll]
    refine in_setAll xs _ _ (fun y hy => ?_) (fun y hy => hx y (List.mem_cons_of_mem _ hy))
    rcases List.mem_or_eq_of_mem_set hy with h | h
    · exact hl y h
    · rw [h]; exact hx x (List.mem_cons_self ..)
theorem in_cells {K : Nat → Prop} {x : AV} {cs : List AV} (h : In K x) (hc : x.cells = some cs) : InL K cs := by
  cases x <;> simp only [AV.cells, Option.some.injEq, reduceCtorEq] at hc <;> subst hc <;> first | exact in_agg.1 h | (intro y hy; rw [List.mem_singleton.1 hy]; exact h)
theorem in_fill {K : Nat → Prop} : ∀ (ps : List (Nat × Nat × AV)) (cs r : List AV), InL K cs → (∀ p ∈ ps, In K p.2.2) → fillAll cs ps = some r → InL K r
  | [], cs, r, hc, _, h => by cases h; exact hc
  | (off, n, v) :: ps, cs, r, hc, hp, h => by
    simp only [fillAll] at h
    split at h
    · rename_i vs hv
      split at h
      · exact in_fill ps _ _ (in_setAll vs cs off hc (in_cells (hp _ (List.mem_cons_self ..)) hv)) (fun p hp' => hp p (List.mem_cons_of_mem _ hp')) h
      · cases h
    · cases h
theorem in_cut {K : Nat → Prop} {l r : List AV} {off n : Nat} (hl : InL K l) (h : cut l off n = some r) : InL K r := by
  unfold cut at h
  dsimp only at h
  split at h
  · cases h; exact fun x hx => hl x (List.mem_of_mem_drop (List.mem_of_mem_take hx))
  · cases h
theorem in_getCells {K : Nat → Prop} {l : List AV} {agg : Option Nat} {off : Nat} {r : AV} (hl : InL K l) (h : getCells agg l off = some r) : In K r := by
  cases agg with
  | none => exact hl.get h
  | some n =>
    simp only [getCells, Option.map_eq_some_iff] at h
    obtain ⟨c, hc, rfl⟩ := h
    exact in_agg.2 (in_cut hl hc)
theorem in_getCellsI {K : Nat → Prop} {l : List IV} {agg : Option Nat} {off : Nat} {r : AV} (h : getCellsI agg l off = some r) : In K r := by
  cases agg with
  | none => simp only [getCellsI, Option.map_eq_some_iff] at h; obtain ⟨c, _, rfl⟩ := h; exact in_imm
  | some n =>
    simp only [getCellsI, Option.map_eq_some_iff] at h
    obtain ⟨c, hc, rfl⟩ := h
    exact in_agg.2 (InL.mapImm c id)
theorem in_imZ {K : Nat → Prop} (zs : List Value) : InL K (imZ zs) := InL.mapImm zs .val
structure Agree (K : Nat → Prop) (s t : Mem) : Prop where
  same : ∀ id, K id → t[id]? = s[id]?
  closed : ∀ id o, K id → s[id]? = some o → ∀ j ∈ o.refs, K j
theorem in_rich {K : Nat → Prop} {s t : Mem} (h : Agree K s t) {id : Nat} (hk : K id) {cs : List AV} (hc : s[id]? = some (.rich cs)) : InL K cs := fun x hx j hj => h.closed id _ hk hc j (by simp only [AObj.refs]; exact refsL_mem.2 ⟨x, hx, hj⟩)
theorem in_map {K : Nat → Prop} {s t : Mem} (h : Agree K s t) {id : Nat} (hk : K id) {es : List (AV × AV)} (hc : s[id]? = some (.map es)) : ∀ p ∈ es, In K p.1 ∧ In K p.2 := fun p hp =>
  ⟨fun j hj => h.closed id _ hk hc j (by simp only [AObj.refs, List.mem_append]; exact .inl (refsL_mem.2 ⟨p.1, List.mem_map.2 ⟨p, hp, rfl⟩, hj⟩)),
   fun j hj => h.closed id _ hk hc j (by simp only [AObj.refs, List.mem_append]; exact .inr (refsL_mem.2 ⟨p.2, List.mem_map.2 ⟨p, hp, rfl⟩, hj⟩))⟩
theorem mapM_congr {α β : Type} {f g : α → Option β} : ∀ (l : List α), (∀ x ∈ l, f x = g x) → l.mapM f = l.mapM g
  | [], _ => rfl
  | x :: r, h => by
    rw [List.mapM_cons, List.mapM_cons, h x (List.mem_cons_self ..), mapM_congr r fun y hy => h y (List.mem_cons_of_mem _ hy)]
theorem frzV_agree {K : Nat → Prop} {s t : Mem} (h : Agree K s t) : ∀ (n : Nat) (x : AV), In K x → frzV t n x = frzV s n x
  | n, .imm x, _ => by cases n <;> rfl
  | 0, .osl .., _ => rfl
  | 0, .optr .., _ => rfl
  | n + 1, .osl id off sz len cap, hx => by
    have hk := in_osl.1 hx
    simp only [frzV, h.same id hk]
    cases hc : s[id]? with
    | none => rfl
    | some o =>
      cases o with
      | rich cs => simp only []; rw [mapM_congr cs fun y hy => frzV_agree h n y (in_rich h hk hc y hy)]
      | _ => rfl
  | n + 1, .optr id off, hx => by
    have hk := in_optr.1 hx
    simp only [frzV, h.same id hk]
    cases hc : s[id]? with
    | none => rfl
    | some o =>
      cases o with
      | rich cs => simp only []; rw [mapM_congr cs fun y hy => frzV_agree h n y (in_rich h hk hc y hy)]
      | _ => rfl
  | n, .omap _, _ => by cases n <;> rfl
  | n, .clo .., _ => by cases n <;> rfl
  | n, .agg _, _ => by cases n <;> rfl
  | n, .tup _, _ => by cases n <;> rfl
  | n, .yld _, _ => by cases n <;> rfl
  | n, .seat .., _ => by cases n <;> rfl
  | n, .junk, _ => by cases n <;> rfl
theorem frz1_agree {K : Nat → Prop} {s t : Mem} (h : Agree K s t) (x : AV) (hx : In K x) : frz.frz1 t x = frz.frz1 s x := by
  cases x with
  | agg cs => simp only [frz.frz1]; rw [mapM_congr cs fun y hy => frzV_agree h 20 y (in_agg.1 hx y hy)]
  | _ => simp only [frz.frz1]; rw [frzV_agree h 20 _ hx]
theorem frzC_agree {K : Nat → Prop} {s t : Mem} (h : Agree K s t) (x : AV) (hx : In K x) : frz.frzC t x = frz.frzC s x := by
  cases x with
  | clo fn caps => rfl
  | _ => simp only [frz.frzC]; rw [frzV_agree h 20 _ hx]
theorem frz_agree {K : Nat → Prop} {s t : Mem} (h : Agree K s t) (x : AV) (hx : In K x) : frz t x = frz s x := by
  cases x with
  | agg cs => simp only [frz]; rw [mapM_congr cs fun y hy => frzV_agree h 20 y (in_agg.1 hx y hy)]
  | tup vs => simp only [frz]; rw [mapM_congr vs fun y hy => frz1_agree h y (in_tup.1 hx y hy)]
  | clo fn caps => simp only [frz]; rw [mapM_congr caps fun y hy => frzC_agree h y (in_clo.1 hx y hy)]
  | _ => simp only [frz]; rw [frzV_agree h 20 _ hx]
theorem in_aggImm {K : Nat → Prop} (l : List IV) : In K (.agg (l.map .imm)) := in_agg.2 (InL.mapImm l id)
mutual
theorem refs_none : ∀ (x : AV), (x.ren fun _ => none).refs = []
  | .imm _ => rfl
  | .osl .. => rfl
  | .optr .. => rfl
  | .omap _ => rfl
  | .clo fn caps => by simp only [AV.ren, AV.refs]; exact refsL_none caps
  | .agg cells => by simp only [AV.ren, AV.refs]; exact refsL_none cells
  | .tup vs => by simp only [AV.ren, AV.refs]; exact refsL_none vs
  | .yld _ => rfl
  | .seat .. => rfl
  | .junk => rfl
theorem refsL_none : ∀ (l : List AV), AV.refs.refsL (AV.ren.renL (fun _ => none) l) = []
  | [] => rfl
  | x :: r => by simp only [AV.ren.renL, AV.refs.refsL, refs_none x, refsL_none r, List.append_nil]
end
theorem in_frz {K : Nat → Prop} {m : Mem} {x y : AV} (h : frz m x = some y) : In K y := by
  have one : ∀ {x y : AV}, frz.frz1 m x = some y → In K y := by
    intro x y h
    cases x <;> simp only [frz.frz1, Option.map_eq_some_iff] at h <;> obtain ⟨l, _, rfl⟩ := h <;> first | exact in_imm | exact in_aggImm l
  cases x with
  | agg cs => simp only [frz, Option.map_eq_some_iff] at h; obtain ⟨l, _, rfl⟩ := h; exact in_aggImm l
  | tup vs =>
    simp only [frz, Option.map_eq_some_iff] at h
    obtain ⟨l, hl, rfl⟩ := h
    refine in_tup.2 fun y hy => ?_
    obtain ⟨j, hj⟩ := List.getElem?_of_mem hy
    obtain ⟨x, _, hx⟩ := (mapM_get _ vs l hl).2 j y hj
    exact one hx
  | clo fn caps =>
    simp only [frz, Option.map_eq_some_iff] at h
    obtain ⟨l, hl, rfl⟩ := h
    refine in_clo.2 fun y hy => ?_
    obtain ⟨j, hj⟩ := List.getElem?_of_mem hy
    obtain ⟨x, _, hx⟩ := (mapM_get _ caps l hl).2 j y hj
    cases x with
    | clo g cs =>
      simp only [frz.frzC, Option.some.injEq] at hx
      subst hx
      intro id hid
      simp only [AV.refs, refsL_none] at hid
      cases hid
    | _ => simp only [frz.frzC, Option.map_eq_some_iff] at hx; obtain ⟨l, _, rfl⟩ := hx; exact in_imm
  | _ => simp only [frz, Option.map_eq_some_iff] at h; obtain ⟨l, _, rfl⟩ := h; exact in_imm
theorem load_agree {K : Nat → Prop} {s t : Mem} (h : Agree K s t) {agg : Option Nat} {x : AV} (hx : In K x) : loadAt t agg x = loadAt s agg x := by
  unfold loadAt
  cases x with
  | optr id off => simp only [h.same id (in_optr.1 hx)]
  | imm y => cases y <;> rfl
  | _ => rfl
theorem in_load {K : Nat → Prop} {s t : Mem} (h : Agree K s t) {agg : Option Nat} {x r : AV} (hx : In K x) (hr : loadAt s agg x = some r) : In K r := by
  unfold loadAt at hr
  split at hr
  · exact in_getCellsI hr
  · rename_i id off
    have hk := in_optr.1 hx
    split at hr
    · exact in_getCellsI hr
    · rename_i cs hc; exact in_getCells (in_rich h hk hc) hr
    · exact in_getCellsI hr
    · cases hr
  · cases hr
theorem elems_agree {K : Nat → Prop} {s t : Mem} (h : Agree K s t) (sz : Nat) {x : AV} (hx : In K x) : elems t sz x = elems s sz x := by
  cases x with
  | osl id off sz' len cap => simp only [elems, h.same id (in_osl.1 hx)]
  | imm v =>
    cases v with
    | val u =>
      cases u with
      | slice b l c => cases b <;> cases l <;> cases c <;> rfl
      | _ => rfl
    | _ => rfl
  | _ => rfl
theorem strOf_agree {K : Nat → Prop} {s t : Mem} (h : Agree K s t) {x : AV} (hx : In K x) : strOfV t x = strOfV s x := by
  unfold strOfV
  split
  · rfl
  · rw [elems_agree h 1 hx]
theorem keyEq_agree {K : Nat → Prop} {s t : Mem} (h : Agree K s t) (kind : Nat) {x y : AV} (hx : In K x) (hy : In K y) : keyEq t kind x y = keyEq s kind x y := by
  unfold keyEq
  split <;> first | rfl | skip
  rename_i i o j p
  rw [h.same i (in_optr.1 hx), h.same j (in_optr.1 hy)]
theorem findK_agree {K : Nat → Prop} {s t : Mem} (h : Agree K s t) (kind : Nat) {k : AV} (hk : In K k) : ∀ (es : List (AV × AV)) (i : Nat), (∀ p ∈ es, In K p.1) → findK t kind k es i = findK s kind k es i
  | [], _, _ => rfl
  | e :: es, i, he => by
    simp only [findK, keyEq_agree h kind hk (he e (List.mem_cons_self ..)), findK_agree h kind hk es (i + 1) fun p hp => he p (List.mem_cons_of_mem _ hp)]
theorem in_plain1 {K : Nat → Prop} {x : AV} (h : x.plain1 = true) : In K x := by
  unfold AV.plain1 at h
  split at h
  · exact in_imm
  · cases h
theorem in_plain2 {K : Nat → Prop} {x : AV} (h : x.plain2 = true) : In K x := by
  cases x with
  | agg cs => exact in_agg.2 fun y hy => in_plain1 (List.all_eq_true.1 h y hy)
  | _ => exact in_plain1 h
theorem in_plain {K : Nat → Prop} {x : AV} (h : x.plain = true) : In K x := by
  cases x with
  | tup cs => exact in_tup.2 fun y hy => in_plain2 (List.all_eq_true.1 h y hy)
  | _ => exact in_plain2 h
end Go.EX


set_option linter.unusedVariables false
set_option linter.unusedSimpArgs false
namespace Go.EX
structure Makes (K : Nat → Prop) (len : Nat) (val : Nat → AV) (new : Nat → List AObj) : Prop where
  size : ∀ p, (new p).length = len
  inV : ∀ p, In (fun id => K id ∨ (p ≤ id ∧ id < p + len)) (val p)
  inN : ∀ p o, o ∈ new p → ∀ id ∈ o.refs, K id ∨ (p ≤ id ∧ id < p + len)
  ren : ∀ p q f, (∀ j, j < len → f (p + j) = some (q + j)) → (∀ id, K id → f id = some id) → (val p).ren f = val q ∧ (new p).map (AObj.ren f) = new q
theorem makes_one {K : Nat → Prop} (o : AObj) (ho : ∀ id ∈ o.refs, K id) (val : Nat → AV) (hv : ∀ p, (val p).refs = [p]) (hr : ∀ p q f, f p = some q → (val p).ren f = val q) : Makes K 1 val fun _ => [o] := by
  refine ⟨fun _ => rfl, fun p id hid => ?_, fun p o' ho' id hid => ?_, fun p q f h1 h2 => ⟨hr p q f (by simpa using h1 0 (by omega)), ?_⟩⟩
  · rw [hv] at hid; simp at hid; exact .inr (by omega)
  · rw [List.mem_singleton.1 ho'] at hid; exact .inl (ho id hid)
  · simp only [List.map_cons, List.map_nil]
    rw [obj_ren_id fun id hid => h2 id (ho id hid)]
theorem makes_seat {K : Nat → Prop} (cs : List AV) (off : Nat) (hcs : InL K cs) : Makes K 1 (fun id => .optr id 0) fun p => [.rich (cs.set off (.seat p off))] := by
  have hin : ∀ p, ∀ x ∈ cs.set off (.seat p off), x = .seat p off ∨ In K x := by
    intro p x hx
    rcases List.mem_or_eq_of_mem_set hx with h | h
    · exact .inr (hcs x h)
    · exact .inl h
  refine ⟨fun _ => rfl, fun p id hid => ?_, fun p o' ho' id hid => ?_, fun p q f h1 h2 => ⟨by simp [AV.ren, show f p = some q by simpa using h1 0 (by omega)], ?_⟩⟩
  · simp [AV.refs] at hid; exact .inr (by omega)
  · rw [List.mem_singleton.1 ho'] at hid
    simp only [AObj.refs] at hid
    obtain ⟨x, hx, hid⟩ := refsL_mem.1 hid
    rcases hin p x hx with rfl | h
    · simp [AV.refs] at hid; exact .inr (by omega)
    · exact .inl (h id hid)
  · simp only [List.map_cons, List.map_nil, AObj.ren, renL_eq, List.map_set, AV.ren, show f p = some q by simpa using h1 0 (by omega)]
    have : cs.map (AV.ren f) = cs := by
      conv => rhs; rw [← List.map_id cs]
      exact List.map_congr_left fun x hx => ren_id fun id hid => h2 id (hcs x hx id hid)
    rw [this]
theorem in_mkObj {K : Nat → Prop} {cs : List AV} (h : InL K cs) : ∀ id ∈ (mkObj cs).refs, K id := by
  unfold mkObj
  split
  · intro id hid; simp [AObj.refs] at hid
  · intro id hid; simp only [AObj.refs] at hid; obtain ⟨x, hx, hid⟩ := refsL_mem.1 hid; exact h x hx id hid
theorem reach_agree {K : Nat → Prop} {s t : Mem} (h : Agree K s t) : ∀ (n : Nat) (todo acc : List Nat), (∀ x ∈ todo, K x) → (∀ x ∈ acc, K x) → reach t n todo acc = reach s n todo acc ∧ ∀ x ∈ reach s n todo acc, K x
  | 0, todo, acc, h1, h2 => by simp only [reach, true_and]; exact h2
  | n + 1, [], acc, h1, h2 => by simp only [reach, true_and]; exact h2
  | n + 1, id :: todo, acc, h1, h2 => by
    have hk := h1 id (by simp)
    have hs := h.same id hk
    have hlt : id < t.length ↔ id < s.length := by
      constructor
      · intro hi; rw [List.getElem?_eq_getElem hi] at hs; exact (List.getElem?_eq_some_iff.1 hs.symm).1
      · intro hi; rw [List.getElem?_eq_getElem hi] at hs; exact (List.getElem?_eq_some_iff.1 hs).1
    simp only [reach, hs, hlt]
    have ht : ∀ x ∈ todo, K x := fun x hx => h1 x (by simp [hx])
    split
    · exact reach_agree h n todo acc ht h2
    · split
      · rename_i hi
        refine reach_agree h n _ _ (fun x hx => ?_) (fun x hx => ?_)
        · rcases List.mem_append.1 hx with hx | hx
          · exact ht x hx
          · rw [List.getElem?_eq_getElem hi] at hx
            exact h.closed id _ hk (List.getElem?_eq_getElem hi) x hx
        · rcases List.mem_append.1 hx with hx | hx
          · exact h2 x hx
          · rw [List.mem_singleton.1 hx]; exact hk
      · exact reach_agree h n todo acc ht h2
theorem pickAll_agree {K : Nat → Prop} {s t : Mem} (h : Agree K s t) {l : List Nat} (hl : ∀ x ∈ l, K x) : t.pickAll l = s.pickAll l := by
  unfold Mem.pickAll
  refine List.map_congr_left fun x hx => ?_
  rw [h.same x (hl x hx)]
theorem order_agree {K : Nat → Prop} {s t : Mem} (hm : Agree K s t) {as : List AV} (hk : InL K as) : order 0 (AV.refs.refsL as) t = order 0 (AV.refs.refsL as) s ∧ ∀ x ∈ order 0 (AV.refs.refsL as) s, K x := by
  have hroots : ∀ x ∈ AV.refs.refsL as, K x := fun x hx => by
    obtain ⟨y, hy, hxy⟩ := refsL_mem.1 hx
    exact hk y hy x hxy
  have h0 : ∀ m : Mem, order 0 (AV.refs.refsL as) m = reach m 1000000000000 (AV.refs.refsL as ++ Mem.refs (m.take 0)) (List.range 0) := fun _ => rfl
  rw [h0, h0]
  simp only [List.take_zero]
  refine reach_agree hm 1000000000000 _ _ (fun x hx => ?_) (fun x hx => ?_)
  · rcases List.mem_append.1 hx with hx | hx
    · exact hroots x hx
    · simp [Mem.refs] at hx
  · simp at hx
theorem look_congr {call : Calls'} {K : Nat → Prop} {s t : St} {fn : Nat} {as : List AV} (hm : Agree K s.mem t.mem) (hk : InL K as) {r : AV} {s' : St} (h : exLook call s fn as = some (r, s')) :
    ∃ (len : Nat) (val : Nat → AV) (new : Nat → List AObj), Makes K len val new ∧ r = val s.mem.length ∧ s' = { s with mem := s.mem ++ new s.mem.length } ∧ exLook call t fn as = some (val t.mem.length, { t with mem := t.mem ++ new t.mem.length }) := by
  have hord := order_agree hm hk
  unfold exLook at h ⊢
  dsimp only at h ⊢
  rw [hord.1, pickAll_agree hm hord.2]
  have hK := hord.2
  clear hord
  generalize order 0 (AV.refs.refsL as) s.mem = l at *
  cases hc : call fn (AV.ren.renL (place l) as) (s.mem.pickAll l) with
  | none => simp [hc] at h
  | some rm =>
    obtain ⟨rv, mc⟩ := rm
    simp only [hc] at h ⊢
    split at h
    case isFalse => cases h
    rename_i hq
    obtain ⟨hmc, hall⟩ := hq
    rw [Bool.and_eq_true] at hall
    obtain ⟨ha1, ha2⟩ := hall
    rw [Bool.and_eq_true] at ha2
    have hb1 : ∀ i ∈ rv.refs, i < mc.length := fun i hi => by simpa using List.all_eq_true.1 ha2.1 i hi
    have hb2 : ∀ o ∈ mc.drop l.length, ∀ i ∈ o.refs, i < mc.length := fun o ho i hi => by
      have := List.all_eq_true.1 ha2.2 o (List.mem_of_mem_drop ho)
      simpa using List.all_eq_true.1 this i hi
    cases h
    have hback : ∀ (p i id : Nat), i < mc.length → (if i < l.length then l[i]? else some (p + (i - l.length))) = some id → K id ∨ (p ≤ id ∧ id < p + (mc.length - l.length)) := by
      intro p i id hi he
      split at he
      · exact .inl (hK id (List.mem_of_getElem? he))
      · cases he; right; omega
    have hbind : ∀ (p q : Nat) (f : Nat → Option Nat), (∀ j, j < mc.length - l.length → f (p + j) = some (q + j)) → (∀ id, K id → f id = some id) → ∀ i, i < mc.length → ((if i < l.length then l[i]? else some (p + (i - l.length))).bind f) = (if i < l.length then l[i]? else some (q + (i - l.length))) := by
      intro p q f h1 h2 i hi
      split
      · rename_i hil
        rw [List.getElem?_eq_getElem hil, Option.bind_some]
        exact h2 _ (hK _ (List.getElem_mem hil))
      · rw [Option.bind_some]; exact h1 _ (by omega)
    refine ⟨mc.length - l.length, fun p => rv.ren fun i => if i < l.length then l[i]? else some (p + (i - l.length)), fun p => (mc.drop l.length).map (AObj.ren fun i => if i < l.length then l[i]? else some (p + (i - l.length))), ⟨fun p => by simp, fun p id hid => ?_, fun p o ho id hid => ?_, fun p q f h1 h2 => ⟨?_, ?_⟩⟩, rfl, rfl, ?_⟩
    · obtain ⟨i, hi, e⟩ := ren_refs rv id hid
      exact hback p i id (hb1 i hi) e
    · obtain ⟨o', ho', rfl⟩ := List.mem_map.1 ho
      obtain ⟨i, hi, e⟩ := obj_ren_refs o' id hid
      exact hback p i id (hb2 o' ho' i hi) e
    · rw [ren_ren]
      exact ren_congr rv fun i hi => hbind p q f h1 h2 i (hb1 i hi)
    · rw [List.map_map]
      refine List.map_congr_left fun o ho => ?_
      simp only [Function.comp, obj_ren_ren]
      exact obj_ren_congr o fun i hi => hbind p q f h1 h2 i (hb2 o ho i hi)
    · rw [if_pos]
      refine ⟨hmc, ?_⟩
      rw [Bool.and_eq_true, Bool.and_eq_true]
      refine ⟨?_, ha2⟩
      rw [List.all_eq_true] at ha1 ⊢
      intro id hid
      have := ha1 id hid
      rw [hm.same id (hK id hid)]
      exact this
theorem make_congr {call : Calls'} {K : Nat → Prop} {x : XOp} (hc : makeOp x = true) {s t : St} (hm : Agree K s.mem t.mem) (he : ∀ n ∈ x.needs, t.env.get n = s.env.get n) (hk : ∀ n ∈ x.needs, In K (s.env.get n))
    (hb : ∀ fn l as r mc, x = .call .own fn l → (l.map s.env.ev).mapM (frz s.mem) = some as → call fn as [] = some (r, mc) → (∀ id ∈ r.refs, id < mc.length) ∧ ∀ o ∈ mc, ∀ id ∈ o.refs, id < mc.length) {r : AV} {s' : St} (h : exOp call s x = some (r, s')) :
    ∃ (len : Nat) (val : Nat → AV) (new : Nat → List AObj), Makes K len val new ∧ r = val s.mem.length ∧ s' = { s with mem := s.mem ++ new s.mem.length } ∧ exOp call t x = some (val t.mem.length, { t with mem := t.mem ++ new t.mem.length }) := by
  have e1 : ∀ y, (∀ n ∈ srcTmp y, n ∈ x.needs) → t.env.ev y = s.env.ev y := fun y hy => ev_congr fun n hn => he n (hy n hn)
  have k1 : ∀ y, (∀ n ∈ srcTmp y, n ∈ x.needs) → In K (s.env.ev y) := fun y hy => in_ev fun n hn => hk n (hy n hn)
  cases x with
  | alloc zs =>
    cases h
    refine ⟨1, fun id => .optr id 0, fun _ => [.rich (imZ zs)], makes_one _ (fun id hid => ?_) _ (fun _ => rfl) (fun p q f hf => by simp [AV.ren, hf]), rfl, rfl, rfl⟩
    simp only [AObj.refs] at hid; obtain ⟨x, hx, hid⟩ := refsL_mem.1 hid; exact in_imZ zs x hx id hid
  | box n y =>
    have ky := k1 y (by simp [XOp.needs])
    simp only [exOp] at h ⊢
    rw [e1 y (by simp [XOp.needs])]
    cases hcs : (s.env.ev y).cells with
    | none => rw [hcs] at h; cases h
    | some cs =>
      rw [hcs] at h
      cases h
      refine ⟨1, fun id => .optr id 0, fun _ => [.rich cs], makes_one _ (fun id hid => ?_) _ (fun _ => rfl) (fun p q f hf => by simp [AV.ren, hf]), rfl, rfl, rfl⟩
      simp only [AObj.refs] at hid; obtain ⟨x, hx, hid⟩ := refsL_mem.1 hid; exact in_cells ky hcs x hx id hid
  | allocB off zs =>
    cases h
    exact ⟨1, fun id => .optr id 0, fun p => [.rich ((imZ zs).set off (.seat p off))], makes_seat _ off (in_imZ zs), rfl, rfl, rfl⟩
  | boxB off n y =>
    have ky := k1 y (by simp [XOp.needs])
    simp only [exOp] at h ⊢
    rw [e1 y (by simp [XOp.needs])]
    cases hcs : (s.env.ev y).cells with
    | none => rw [hcs] at h; cases h
    | some cs =>
      rw [hcs] at h
      dsimp only at h ⊢
      split at h
      · rename_i hln
        split at h
        · rename_i hnil
          cases h
          exact ⟨1, fun id => .optr id 0, fun p => [.rich (cs.set off (.seat p off))], makes_seat _ off (in_cells ky hcs), rfl, rfl, by rw [if_pos hln]; rfl⟩
        · cases h
      · cases h
  | buildSlice sz zs len ps =>
    simp only [exOp] at h ⊢
    rw [evP_congr (s := s.env) (t := t.env) (by simpa [XOp.needs] using he)]
    cases hf : fillAll (imZ (copies len zs)) (ps.map fun (o, n, x) => (o, n, s.env.ev x)) with
    | none => rw [hf] at h; cases h
    | some cs =>
      rw [hf] at h
      cases h
      refine ⟨1, fun id => .osl id 0 sz len (some len), fun _ => [mkObj cs], makes_one _ (in_mkObj (in_fill _ _ _ (in_imZ _) (fun p hp => ?_) hf)) _ (fun _ => rfl) (fun p q f hf => by simp [AV.ren, hf]), rfl, rfl, rfl⟩
      obtain ⟨q, hq, rfl⟩ := List.mem_map.1 hp
      exact k1 q.2.2 fun n hn => by simp only [XOp.needs]; exact List.mem_flatMap.2 ⟨q, hq, hn⟩
  | makeSlice sz bytes zs l c =>
    simp only [exOp] at h ⊢
    rw [e1 l (by simp [XOp.needs]; intros; simp [*]), e1 c (by simp [XOp.needs]; intros; simp [*])]
    split at h
    · rename_i i j hi hj
      split at h
      · rename_i hbd
        cases h
        refine ⟨1, fun id => .osl id 0 sz i.toNat (some j.toNat), fun _ => [.flat (copies j.toNat (zs.map .val)) false], makes_one _ (fun id hid => by simp [AObj.refs] at hid) _ (fun _ => rfl) (fun p q f hf => by simp [AV.ren, hf]), rfl, rfl, ?_⟩
        simp only [hi, hj, hbd, and_self, if_true]
        rfl
      · cases h
    · cases h
  | makeMap hint =>
    have mk : Makes K 1 (fun id => .omap id) (fun _ => [.map []]) := makes_one _ (fun id hid => by simp [AObj.refs, AV.refs.refsL] at hid) _ (fun _ => rfl) (fun p q f hf => by simp [AV.ren, hf])
    simp only [exOp] at h ⊢
    cases hint with
    | none => cases h; exact ⟨1, _, _, mk, rfl, rfl, rfl⟩
    | some y =>
      simp only at h ⊢
      rw [e1 y (by simp [XOp.needs, srcTmpO])]
      split at h
      · rename_i i hi; cases h; exact ⟨1, _, _, mk, rfl, rfl, by rfl⟩
      · cases h
  | call mode fn l =>
    cases mode with
    | own =>
      simp only [exOp, exOwn] at h ⊢
      have hin : InL K (l.map s.env.ev) := fun x hx => by
        obtain ⟨q, hq, rfl⟩ := List.mem_map.1 hx
        exact k1 q fun n hn => by simp only [XOp.needs]; exact List.mem_flatMap.2 ⟨q, hq, hn⟩
      rw [evL_congr (s := s.env) (t := t.env) (by simpa [XOp.needs] using he), mapM_congr _ fun x hx => frz_agree hm x (hin x hx)]
      split at h
      · cases h
      · rename_i as has
        split at h
        · cases h
        · rename_i r0 mc hcall
          obtain ⟨hb1, hb2⟩ := hb fn l as r0 mc rfl has hcall
          split at h
          · rename_i hcond
            cases h
            refine ⟨mc.length, fun p => r0.ren fun i => some (p + i), fun p => mc.map (AObj.ren fun i => some (p + i)), ⟨fun p => by simp, fun p id hid => ?_, fun p o ho id hid => ?_, fun p q f h1 h2 => ⟨?_, ?_⟩⟩, rfl, rfl, by simp only [hcall, hcond, if_true]⟩
            · obtain ⟨i, hi, e⟩ := ren_refs r0 id hid
              cases e
              exact .inr ⟨by omega, by have := hb1 i hi; omega⟩
            · obtain ⟨o', ho', rfl⟩ := List.mem_map.1 ho
              obtain ⟨i, hi, e⟩ := obj_ren_refs o' id hid
              cases e
              exact .inr ⟨by omega, by have := hb2 o' ho' i hi; omega⟩
            · rw [ren_ren]
              exact ren_congr r0 fun id hid => by simpa using h1 id (hb1 id hid)
            · rw [List.map_map]
              refine List.map_congr_left fun o ho => ?_
              simp only [Function.comp, obj_ren_ren]
              exact obj_ren_congr o fun id hid => by simpa using h1 id (hb2 o ho id hid)
          · cases h
    | look =>
      simp only [exOp] at h ⊢
      have hin : InL K (l.map s.env.ev) := fun x hx => by
        obtain ⟨q, hq, rfl⟩ := List.mem_map.1 hx
        exact k1 q fun n hn => by simp only [XOp.needs]; exact List.mem_flatMap.2 ⟨q, hq, hn⟩
      rw [evL_congr (s := s.env) (t := t.env) (by simpa [XOp.needs] using he)]
      exact look_congr hm hin h
    | view => cases hc
    | share => cases hc
    | peek => cases hc
  | _ => cases hc
end Go.EX


set_option linter.unusedVariables false
set_option linter.unusedSimpArgs false
namespace Go.EX
theorem peek_congr {call : Calls'} {K : Nat → Prop} {s t : St} {fn : Nat} {as : List AV} (hm : Agree K s.mem t.mem) (hk : InL K as) {r : AV} {s' : St} (h : exPeek call s fn as = some (r, s')) :
    s' = s ∧ exPeek call t fn as = some (r, t) ∧ In K r := by
  have hroots : ∀ x ∈ AV.refs.refsL as, K x := fun x hx => by
    obtain ⟨y, hy, hxy⟩ := refsL_mem.1 hx
    exact hk y hy x hxy
  have hord : order 0 (AV.refs.refsL as) t.mem = order 0 (AV.refs.refsL as) s.mem ∧ ∀ x ∈ order 0 (AV.refs.refsL as) s.mem, K x := by
    have h0 : ∀ m : Mem, order 0 (AV.refs.refsL as) m = reach m 1000000000000 (AV.refs.refsL as ++ Mem.refs (m.take 0)) (List.range 0) := fun _ => rfl
    rw [h0, h0]
    simp only [List.take_zero]
    refine reach_agree hm 1000000000000 _ _ (fun x hx => ?_) (fun x hx => ?_)
    · rcases List.mem_append.1 hx with hx | hx
      · exact hroots x hx
      · simp [Mem.refs] at hx
    · simp at hx
  unfold exPeek at h ⊢
  dsimp only at h ⊢
  rw [hord.1, pickAll_agree hm hord.2]
  cases hc : call fn (AV.ren.renL (place (order 0 (AV.refs.refsL as) s.mem)) as) (s.mem.pickAll (order 0 (AV.refs.refsL as) s.mem)) with
  | none => simp [hc] at h
  | some rm =>
    obtain ⟨rv, mc⟩ := rm
    simp only [hc] at h ⊢
    split at h
    case isFalse => cases h
    rename_i hq
    obtain ⟨hmc, hp, hall⟩ := hq
    cases h
    refine ⟨rfl, ?_, in_plain hp⟩
    rw [if_pos]
    refine ⟨hmc, hp, ?_⟩
    rw [List.all_eq_true] at hall ⊢
    intro id hid
    have := hall id hid
    rw [hm.same id (hord.2 id hid)]
    exact this
end Go.EX


set_option linter.unusedVariables false
set_option linter.unusedSimpArgs false
namespace Go.EX
theorem calm_congr {call : Calls'} {K : Nat → Prop} {x : XOp} (hc : calmOp x = true) {s t : St} (hm : Agree K s.mem t.mem) (he : ∀ n ∈ x.reads, t.env.get n = s.env.get n) (hk : ∀ n ∈ x.reads, In K (s.env.get n)) {r : AV} {s' : St} (h : exOp call s x = some (r, s')) :
    s' = s ∧ exOp call t x = some (r, t) ∧ In K r := by
  have hmap : ∀ {α : Type} (o : Option α) (f : α → AV), o.map (fun v => (f v, s)) = some (r, s') → (∀ v, o = some v → In K (f v)) → s' = s ∧ o.map (fun v => (f v, t)) = some (r, t) ∧ In K r := by
    intro α o f ho hf
    cases o with
    | none => cases ho
    | some v => cases ho; exact ⟨rfl, rfl, hf v rfl⟩
  have e1 : ∀ y, (∀ n ∈ srcTmp y, n ∈ x.reads) → t.env.ev y = s.env.ev y := fun y hy => ev_congr fun n hn => he n (hy n hn)
  have k1 : ∀ y, (∀ n ∈ srcTmp y, n ∈ x.reads) → In K (s.env.ev y) := fun y hy => in_ev fun n hn => hk n (hy n hn)
  have eO : ∀ y, (∀ n ∈ srcTmpO y, n ∈ x.reads) → y.map t.env.ev = y.map s.env.ev := fun y hy => evO_congr fun n hn => he n (hy n hn)
  cases x with
  | mv y =>
    have ky := k1 y (by simp [XOp.reads])
    simp only [exOp] at h ⊢
    rw [e1 y (by simp [XOp.reads])]
    cases h; exact ⟨rfl, rfl, ky⟩
  | load agg y =>
    have ky := k1 y (by simp [XOp.reads])
    simp only [exOp] at h ⊢
    rw [e1 y (by simp [XOp.reads]), load_agree hm ky]
    exact hmap _ _ h fun v hv => in_load hm ky hv
  | nilCheck y =>
    have ky := k1 y (by simp [XOp.reads])
    simp only [exOp] at h ⊢
    rw [e1 y (by simp [XOp.reads])]
    revert h; split <;> intro h <;> first | (cases h; done) | (cases h; exact ⟨rfl, rfl, ky⟩)
  | extract y i =>
    have ky := k1 y (by simp [XOp.reads])
    simp only [exOp] at h ⊢
    rw [e1 y (by simp [XOp.reads])]
    revert h; split <;> intro h <;> first | (cases h; done) | skip
    rename_i vs hv
    rw [hv] at ky
    exact hmap _ _ h fun v hv => (in_tup.1 ky).get hv
  | field off agg y =>
    have ky := k1 y (by simp [XOp.reads])
    simp only [exOp] at h ⊢
    rw [e1 y (by simp [XOp.reads])]
    revert h; split <;> intro h <;> first | (cases h; done) | skip
    rename_i cs hv
    rw [hv] at ky
    exact hmap _ _ h fun v hv => in_getCells (in_agg.1 ky) hv
  | fieldA off y =>
    have ky := k1 y (by simp [XOp.reads])
    simp only [exOp] at h ⊢
    rw [e1 y (by simp [XOp.reads])]
    revert h; split <;> intro h <;> first | (cases h; done) | skip
    · cases h; exact ⟨rfl, rfl, in_imm⟩
    · rename_i id o hv
      rw [hv] at ky
      cases h; exact ⟨rfl, rfl, in_optr.2 (in_optr.1 ky)⟩
  | eqNil _ _ y | un _ y | conv _ y | convS y | len y | lenS y | cap y =>
    simp only [exOp] at h ⊢
    rw [e1 y (by simp [XOp.reads])]
    first
      | exact hmap _ _ h fun _ _ => in_imm
      | (revert h; split <;> intro h <;> first | (cases h; done) | (cases h; exact ⟨rfl, rfl, in_imm⟩) | exact hmap _ _ h fun _ _ => in_imm)
  | idxP n sz y z =>
    have ky := k1 y (by simp [XOp.reads]; intros; simp [*])
    simp only [exOp] at h ⊢
    rw [e1 y (by simp [XOp.reads]; intros; simp [*]), e1 z (by simp [XOp.reads]; intros; simp [*])]
    split at h
    · cases h
    · split at h
      · rename_i hb
        split at h
        · cases h; refine ⟨rfl, ?_, in_imm⟩; simp only [*, and_self, if_true]
        · rename_i heq; cases h; rw [heq] at ky; refine ⟨rfl, ?_, in_optr.2 (in_optr.1 ky)⟩; simp only [*, and_self, if_true]
        · cases h
      · cases h
  | idxV n sz agg y z =>
    have ky := k1 y (by simp [XOp.reads]; intros; simp [*])
    simp only [exOp] at h ⊢
    rw [e1 y (by simp [XOp.reads]; intros; simp [*]), e1 z (by simp [XOp.reads]; intros; simp [*])]
    split at h
    · cases h
    · split at h
      · rename_i hb
        split at h
        · rename_i cs heq
          rw [heq] at ky
          simp only [hb, and_self, if_true]
          exact hmap _ _ h fun v hv => in_getCells (in_agg.1 ky) hv
        · cases h
      · cases h
  | strOf y =>
    have ky := k1 y (by simp [XOp.reads])
    simp only [exOp] at h ⊢
    rw [e1 y (by simp [XOp.reads]), strOf_agree hm ky]
    exact hmap _ _ h fun _ _ => in_imm
  | bytesOf y =>
    simp only [exOp] at h ⊢
    rw [e1 y (by simp [XOp.reads])]
    revert h; split <;> intro h <;> first | (cases h; done) | (cases h; exact ⟨rfl, rfl, in_imm⟩)
  | minmax mn y z =>
    simp only [exOp] at h ⊢
    rw [e1 y (by simp [XOp.reads]; intros; simp [*]), e1 z (by simp [XOp.reads]; intros; simp [*])]
    revert h; split <;> intro h <;> first | (cases h; done) | (cases h; exact ⟨rfl, rfl, in_imm⟩)
  | pick a b c =>
    have kb := k1 b (by simp [XOp.reads]; intros; simp [*])
    have kc := k1 c (by simp [XOp.reads]; intros; simp [*])
    simp only [exOp] at h ⊢
    rw [e1 a (by simp [XOp.reads]; intros; simp [*]), e1 b (by simp [XOp.reads]; intros; simp [*]), e1 c (by simp [XOp.reads]; intros; simp [*])]
    revert h; split <;> intro h <;> first | (cases h; done) | skip
    cases h
    refine ⟨rfl, rfl, ?_⟩
    split
    · exact kb
    · exact kc
  | bin _ y z | binB _ y z | eqCells _ _ y z | idxS y z =>
    simp only [exOp] at h ⊢
    rw [e1 y (by simp [XOp.reads]; intros; simp [*]), e1 z (by simp [XOp.reads]; intros; simp [*])]
    repeat' (first | exact hmap _ _ h fun _ _ => in_imm | (cases h; done) | (cases h; exact ⟨rfl, rfl, in_imm⟩) | (revert h; split <;> intro h))
  | idxA _ y z =>
    have ky := k1 y (by simp [XOp.reads]; intros; simp [*])
    simp only [exOp] at h ⊢
    rw [e1 y (by simp [XOp.reads]; intros; simp [*]), e1 z (by simp [XOp.reads]; intros; simp [*])]
    split at h
    · cases h
    · split at h
      · split at h
        · rename_i hb; cases h; refine ⟨rfl, ?_, in_imm⟩; simp only [*, and_self, if_true]
        · cases h
      · rename_i heq
        split at h
        · rename_i hb; cases h; rw [heq] at ky; refine ⟨rfl, ?_, in_optr.2 (in_osl.1 ky)⟩; simp only [*, and_self, if_true]
        · cases h
      · cases h
  | build zs ps =>
    simp only [exOp] at h ⊢
    rw [evP_congr (s := s.env) (t := t.env) (by simpa [XOp.reads] using he)]
    refine hmap _ _ h fun v hv => in_agg.2 (in_fill _ _ _ (in_imZ zs) (fun p hp => ?_) hv)
    obtain ⟨q, hq, rfl⟩ := List.mem_map.1 hp
    exact k1 q.2.2 fun n hn => by simp only [XOp.reads]; exact List.mem_flatMap.2 ⟨q, hq, hn⟩
  | slice sz y lo hi =>
    have ky := k1 y (by simp [XOp.reads]; intros; simp [*])
    simp only [exOp] at h ⊢
    rw [e1 y (by simp [XOp.reads]; intros; simp [*]), eO lo (by simp [XOp.reads]; intros; simp [*]), eO hi (by simp [XOp.reads]; intros; simp [*])]
    refine hmap _ _ h fun v hv => ?_
    generalize s.env.ev y = yv at hv ky
    unfold exSlice at hv
    split at hv
    · simp only [Option.map_eq_some_iff] at hv; obtain ⟨_, _, rfl⟩ := hv; exact in_imm
    · simp only [Option.map_eq_some_iff] at hv; obtain ⟨_, _, rfl⟩ := hv; exact in_imm
    · split at hv
      · simp only [Option.map_eq_some_iff] at hv; obtain ⟨_, _, rfl⟩ := hv; exact in_osl.2 (in_osl.1 ky)
      · cases hv
    · cases hv
  | slice3 sz y hi mx =>
    have ky := k1 y (by simp [XOp.reads]; intros; simp [*])
    simp only [exOp] at h ⊢
    rw [e1 y (by simp [XOp.reads]; intros; simp [*]), e1 hi (by simp [XOp.reads]; intros; simp [*]), e1 mx (by simp [XOp.reads]; intros; simp [*])]
    refine hmap _ _ h fun v hv => ?_
    generalize s.env.ev y = yv at hv ky
    unfold exSlice3 at hv
    split at hv
    · split at hv
      · split at hv
        · cases hv; exact in_imm
        · cases hv
      · split at hv
        · cases hv; exact in_imm
        · cases hv
      · split at hv
        · cases hv; exact in_osl.2 (in_osl.1 ky)
        · cases hv
      · cases hv
    · cases hv
  | sliceS y lo hi =>
    simp only [exOp] at h ⊢
    rw [e1 y (by simp [XOp.reads]; intros; simp [*]), eO lo (by simp [XOp.reads]; intros; simp [*]), eO hi (by simp [XOp.reads]; intros; simp [*])]
    revert h; split <;> intro h <;> first | (cases h; done) | exact hmap _ _ h fun _ _ => in_imm
  | mkClo _ l =>
    simp only [exOp] at h ⊢
    rw [evL_congr (s := s.env) (t := t.env) (by simpa [XOp.reads] using he)]
    cases h
    refine ⟨rfl, rfl, in_clo.2 fun x hx => ?_⟩
    obtain ⟨q, hq, rfl⟩ := List.mem_map.1 hx
    exact k1 q fun n hn => by simp only [XOp.reads]; exact List.mem_flatMap.2 ⟨q, hq, hn⟩
  | lookup kind zs agg y z ok =>
    have ky := k1 y (by simp [XOp.reads]; intros; simp [*])
    have kz := k1 z (by simp [XOp.reads]; intros; simp [*])
    simp only [exOp] at h ⊢
    rw [e1 y (by simp [XOp.reads]; intros; simp [*]), e1 z (by simp [XOp.reads]; intros; simp [*])]
    generalize s.env.ev y = yv at h ky ⊢
    generalize s.env.ev z = zv at h kz ⊢
    have kzero : In K (zeroAV zs agg) := by
      unfold zeroAV
      split
      · exact in_agg.2 (in_imZ zs)
      · split
        · exact in_imm
        · exact in_junk
    have kout : ∀ (v : AV) (b : Bool), In K v → In K (.tup [v, .imm (.val (.bool b))]) := fun v b hv => in_tup.2 fun x hx => by
      simp only [List.mem_cons, List.not_mem_nil, or_false] at hx
      rcases hx with rfl | rfl
      · exact hv
      · exact in_imm
    split at h
    · rename_i hik
      rw [if_pos hik]
      split at h
      · cases ok <;> cases h
        · exact ⟨rfl, rfl, kzero⟩
        · exact ⟨rfl, rfl, kout _ _ kzero⟩
      · rename_i id
        have hid := in_omap.1 ky
        simp only [hm.same id hid]
        split at h
        · rename_i es hes
          have hin := in_map hm hid hes
          rw [findK_agree hm kind kz es 0 fun p hp => (hin p hp).1]
          split at h
          · cases ok <;> cases h
            · exact ⟨rfl, rfl, kzero⟩
            · exact ⟨rfl, rfl, kout _ _ kzero⟩
          · rename_i i hi
            cases hp : es[i]? with
            | none => rw [hp] at h; cases h
            | some p =>
              rw [hp] at h
              have kp := (hin p (List.mem_of_getElem? hp)).2
              cases ok <;> cases h
              · exact ⟨rfl, rfl, kp⟩
              · exact ⟨rfl, rfl, kout _ _ kp⟩
          · cases h
        · cases h
      · cases h
    · cases h
  | lenM y =>
    have ky := k1 y (by simp [XOp.reads])
    simp only [exOp] at h ⊢
    rw [e1 y (by simp [XOp.reads])]
    generalize s.env.ev y = yv at h ky ⊢
    split at h
    · cases h; exact ⟨rfl, rfl, in_imm⟩
    · rename_i id
      simp only [hm.same id (in_omap.1 ky)]
      split at h
      · cases h; exact ⟨rfl, rfl, in_imm⟩
      · cases h
    · cases h
  | call mode fn l =>
    cases mode with
    | view =>
      simp only [exOp, exView] at h ⊢
      have hin : InL K (l.map s.env.ev) := fun x hx => by
        obtain ⟨q, hq, rfl⟩ := List.mem_map.1 hx
        exact k1 q fun n hn => by simp only [XOp.reads]; exact List.mem_flatMap.2 ⟨q, hq, hn⟩
      rw [evL_congr (s := s.env) (t := t.env) (by simpa [XOp.reads] using he), mapM_congr _ fun x hx => frz_agree hm x (hin x hx)]
      split at h
      · cases h
      · split at h
        · cases h
        · rename_i mc hcall
          split at h
          · rename_i hp
            cases h
            refine ⟨rfl, by simp only [hcall, hp, if_true], ?_⟩
            exact in_plain hp
          · rename_i hp
            split at h
            · rename_i hi
              simp only [hcall, hp, hi, Bool.false_eq_true, if_true, if_false]
              exact hmap _ _ h fun v hv => in_frz hv
            · cases h
    | own => cases hc
    | share => cases hc
    | look => cases hc
    | peek =>
      simp only [exOp] at h ⊢
      have hin : InL K (l.map s.env.ev) := fun x hx => by
        obtain ⟨q, hq, rfl⟩ := List.mem_map.1 hx
        exact k1 q fun n hn => by simp only [XOp.reads]; exact List.mem_flatMap.2 ⟨q, hq, hn⟩
      rw [evL_congr (s := s.env) (t := t.env) (by simpa [XOp.reads] using he)]
      exact peek_congr hm hin h
  | alloc | allocB | box | boxB | buildSlice | store | frz | append | appendK | appendS | makeSlice | copy | clear | callV | makeMap | mapSet => cases hc
  | junk => cases h; exact ⟨rfl, rfl, in_junk⟩
  | litA | litI | litM | litL => cases h
end Go.EX


set_option linter.unusedVariables false
set_option linter.unusedSimpArgs false
namespace Go.EX
section
variable {num : Names} {P : Program}
theorem countP_one {p q : Nat → Bool} {i : Nat} (hp : p i = true) (hq : q i = false) (h : ∀ j, j ≠ i → q j = p j) : ∀ (l : List Nat), l.Nodup → (i ∈ l → l.countP q + 1 = l.countP p) ∧ (i ∉ l → l.countP q = l.countP p)
  | [], _ => ⟨fun h => absurd h (by simp), fun _ => rfl⟩
  | j :: l, hn => by
    obtain ⟨hj, hn⟩ := List.nodup_cons.1 hn
    obtain ⟨h1, h2⟩ := countP_one hp hq h l hn
    by_cases hji : j = i
    · subst hji
      refine ⟨fun _ => ?_, fun hh => absurd (List.mem_cons_self ..) hh⟩
      rw [List.countP_cons, List.countP_cons, hp, hq, h2 hj]; simp
    · refine ⟨fun hh => ?_, fun hh => ?_⟩
      · have : i ∈ l := by rcases List.mem_cons.1 hh with h | h; exact absurd h.symm hji; exact h
        rw [List.countP_cons, List.countP_cons, h j hji, ← h1 this]; omega
      · have : i ∉ l := fun hh' => hh (List.mem_cons_of_mem _ hh')
        rw [List.countP_cons, List.countP_cons, h j hji, h2 this]
def left (n : Nat) (listed : Array Bool) : Nat := (List.range n).countP fun i => !listed.getD i true
theorem left_set {n i : Nat} {listed : Array Bool} (hi : i < n) (hl : listed.getD i true = false) : left n (listed.setIfInBounds i true) + 1 = left n listed := by
  refine (countP_one (p := fun i => !listed.getD i true) (q := fun j => !(listed.setIfInBounds i true).getD j true) (i := i) (by simp [hl]) ?_ ?_ (List.range n) List.nodup_range).1 (List.mem_range.2 hi)
  · show (!(listed.setIfInBounds i true).getD i true) = false
    rw [Array.getD_eq_getD_getElem?, Array.getElem?_setIfInBounds]
    split <;> (try split) <;> simp_all
  · intro j hj
    show (!(listed.setIfInBounds i true).getD j true) = _
    rw [getD_set_ne true (Ne.symm hj)]
theorem exOps_split {call : Calls'} : ∀ (xs : List XO) (s s' : St), exOps call s xs = some s' → ∀ i, ∃ t, exOps call s (xs.take i) = some t ∧ exOps call t (xs.drop i) = some s'
  | [], s, s', h, i => ⟨s, by simp [exOps], by simpa using h⟩
  | x :: xs, s, s', h, 0 => ⟨s, rfl, h⟩
  | x :: xs, s, s', h, i + 1 => by
    simp only [exOps] at h
    cases hx : exOne call s x with
    | none => rw [hx] at h; cases h
    | some s1 =>
      rw [hx] at h
      obtain ⟨t, h1, h2⟩ := exOps_split xs s1 s' h i
      exact ⟨t, by simp only [List.take_succ_cons, exOps, hx, Option.bind_some, h1], by simpa using h2⟩
theorem exOps_snoc {call : Calls'} : ∀ (xs : List XO) (x : XO) (s t u : St), exOps call s xs = some t → exOps call s (xs ++ [x]) = some u → exOne call t x = some u
  | [], x, s, t, u, h, g => by
    cases h
    simp only [List.nil_append, exOps] at g
    cases hx : exOne call s x with
    | none => rw [hx] at g; cases g
    | some s1 => rw [hx] at g; cases g; rfl
  | y :: xs, x, s, t, u, h, g => by
    simp only [List.cons_append, exOps] at h g
    cases hx : exOne call s y with
    | none => rw [hx] at h; cases h
    | some s1 => rw [hx] at h g; exact exOps_snoc xs x s1 t u h g
theorem bind_get (s : St) (d : Option Nat) (v : AV) (t : Nat) : (s.bind d v).env.get t = if d = some t then v else s.env.get t := by
  cases d with
  | none => simp [St.bind]
  | some d =>
    simp only [St.bind, Env.get, Option.some.injEq]
    by_cases h : t = d
    · subst h; simp
    · rw [if_neg h, if_neg (fun h' => h h'.symm)]
theorem one_congr {call : Calls'} {K : Nat → Prop} {x : XO} (hc : (calmOp x.op || makeOp x.op) = true) {s t : St} (hm : Agree K s.mem t.mem) (he : ∀ n ∈ x.reads, t.env.get n = s.env.get n) (hk : ∀ n ∈ x.reads, In K (s.env.get n))
    (hb : ∀ fn l as r mc, x.op = .call .own fn l → (l.map s.env.ev).mapM (frz s.mem) = some as → call fn as [] = some (r, mc) → (∀ id ∈ r.refs, id < mc.length) ∧ ∀ o ∈ mc, ∀ id ∈ o.refs, id < mc.length) {s' : St} (h : exOne call s x = some s') :
    ∃ (len : Nat) (val : Nat → AV) (new : Nat → List AObj), Makes K len val new ∧ s' = ({ s with mem := s.mem ++ new s.mem.length } : St).bind x.dst (val s.mem.length) ∧ exOne call t x = some (({ t with mem := t.mem ++ new t.mem.length } : St).bind x.dst (val t.mem.length)) := by
  have r1 : ∀ n ∈ x.op.reads, n ∈ x.reads := fun n hn => List.mem_append.2 (.inl hn)
  have r2 : ∀ n ∈ x.op.needs, n ∈ x.reads := fun n hn => List.mem_append.2 (.inr (List.mem_append.2 (.inl hn)))
  have r3 : ∀ u b, x.guard = some (u, b) → u ∈ x.reads := fun u b hg => List.mem_append.2 (.inr (List.mem_append.2 (.inr (by simp [hg]))))
  have calm : ∀ v, In K v → Makes K 0 (fun _ => v) (fun _ => []) := fun v hv => ⟨fun _ => rfl, fun p id hid => .inl (hv id hid), fun p o ho => absurd ho (by simp), fun p q f _ h2 => ⟨ren_id fun id hid => h2 id (hv id hid), rfl⟩⟩
  have nil : ∀ (u : St), ({ u with mem := u.mem ++ [] } : St) = u := fun u => by cases u; simp
  rcases exOne_bind h with ⟨v, s1, hx, rfl, hg⟩ | ⟨rfl, u, b, hg, hcc⟩
  · have hop : ∃ (len : Nat) (val : Nat → AV) (new : Nat → List AObj), Makes K len val new ∧ v = val s.mem.length ∧ s1 = { s with mem := s.mem ++ new s.mem.length } ∧ exOp call t x.op = some (val t.mem.length, { t with mem := t.mem ++ new t.mem.length }) := by
      by_cases hcalm : calmOp x.op = true
      · obtain ⟨rfl, h2, h3⟩ := calm_congr hcalm hm (fun n hn => he n (r1 n hn)) (fun n hn => hk n (r1 n hn)) hx
        exact ⟨0, fun _ => v, fun _ => [], calm v h3, rfl, (nil _).symm, by rw [nil]; exact h2⟩
      · have hmake : makeOp x.op = true := by simpa [hcalm] using hc
        exact make_congr hmake hm (fun n hn => he n (r2 n hn)) (fun n hn => hk n (r2 n hn)) hb hx
    obtain ⟨len, val, new, h1, rfl, rfl, h4⟩ := hop
    refine ⟨len, val, new, h1, rfl, ?_⟩
    unfold exOne
    rcases hg with hg | ⟨u, b, hg, hcc⟩
    · simp only [hg, h4, Option.map_some]; cases x.dst <;> rfl
    · have : t.env.get u = .imm (.val (.bool b)) := by rw [he u (r3 u b hg)]; exact hcc
      simp only [hg, this, h4, Option.map_some, if_true]; cases x.dst <;> rfl
  · refine ⟨0, fun _ => .tup [], fun _ => [], calm (.tup []) (in_tup.2 fun y hy => by cases hy), by rw [nil], ?_⟩
    unfold exOne
    rcases hcc with ⟨c, hcc, hne⟩ | hcc
    · have : t.env.get u = .imm (.val (.bool c)) := by rw [he u (r3 u b hg)]; exact hcc
      simp only [hg, this, hne, if_false, nil]
      cases x.dst <;> rfl
    · have : t.env.get u = .tup [] := by rw [he u (r3 u b hg)]; exact hcc
      simp only [hg, this, nil]
      cases x.dst <;> rfl
theorem arep_lt {C : Cx} {x : AV} {v : Value} (h : ARep num C x v) : ∀ id ∈ x.refs, id < C.n := by
  induction h with
  | imm x v h => intro id hid; simp [AV.refs] at hid
  | osl id off sz len cap c a arr e hid _ _ _ _ _ => intro j hj; simp [AV.refs] at hj; rw [hj]; exact hid
  | optr id off hid => intro j hj; simp [AV.refs] at hj; rw [hj]; exact hid
  | omap id hid => intro j hj; simp [AV.refs] at hj; rw [hj]; exact hid
  | clo f caps vs hl h ih =>
    intro j hj
    simp only [AV.refs] at hj
    obtain ⟨x, hx, hj⟩ := refsL_mem.1 hj
    obtain ⟨i, hi⟩ := List.getElem?_of_mem hx
    have : i < vs.size := by rw [← hl]; exact (List.getElem?_eq_some_iff.1 hi).1
    exact ih i x vs[i] hi (by simp [this]) j hj
  | agg caps vs hl _ h ih =>
    intro j hj
    simp only [AV.refs] at hj
    obtain ⟨x, hx, hj⟩ := refsL_mem.1 hj
    obtain ⟨i, hi⟩ := List.getElem?_of_mem hx
    have : i < vs.size := by rw [← hl]; exact (List.getElem?_eq_some_iff.1 hi).1
    exact ih i x vs[i] hi (by simp [this]) j hj
  | tup caps vs hl h ih =>
    intro j hj
    simp only [AV.refs] at hj
    obtain ⟨x, hx, hj⟩ := refsL_mem.1 hj
    obtain ⟨i, hi⟩ := List.getElem?_of_mem hx
    have : i < vs.size := by rw [← hl]; exact (List.getElem?_eq_some_iff.1 hi).1
    exact ih i x vs[i] hi (by simp [this]) j hj
  | yld id hid => intro j hj; simp [AV.refs] at hj; subst hj; exact hid
  | seat id off n e hid hw hb => intro j hj; simp [AV.refs] at hj; subst hj; exact hid
  | junk v => intro id hid; simp [AV.refs] at hid
theorem orep_lt {C : Cx} {id : Nat} {o : AObj} (h : ORep num C id o) : ∀ j ∈ o.refs, j < C.n := by
  intro j hj
  cases o with
  | flat => simp [AObj.refs] at hj
  | rich cs =>
    obtain ⟨arr, e, _, h2⟩ := h
    simp only [AObj.refs] at hj
    obtain ⟨x, hx, hj⟩ := refsL_mem.1 hj
    obtain ⟨i, hi⟩ := List.getElem?_of_mem hx
    obtain ⟨u, _, _, hr⟩ := h2 i x hi
    exact arep_lt hr j hj
  | map es =>
    obtain ⟨es', clock, _, hl, h3⟩ := h
    simp only [AObj.refs, List.mem_append] at hj
    have one : ∀ (p : AV × AV), p ∈ es → (j ∈ p.1.refs ∨ j ∈ p.2.refs) → j < C.n := by
      intro p hp hj
      obtain ⟨i, hi⟩ := List.getElem?_of_mem hp
      have : i < es'.size := by rw [hl]; exact (List.getElem?_eq_some_iff.1 hi).1
      obtain ⟨g1, g2⟩ := h3 i p es'[i] hi (by simp [this])
      rcases hj with hj | hj
      · exact arep_lt g1 j hj
      · exact arep_lt g2 j hj
    rcases hj with hj | hj
    · obtain ⟨x, hx, hj⟩ := refsL_mem.1 hj
      obtain ⟨p, hp, rfl⟩ := List.mem_map.1 hx
      exact one p hp (.inl hj)
    · obtain ⟨x, hx, hj⟩ := refsL_mem.1 hj
      obtain ⟨p, hp, rfl⟩ := List.mem_map.1 hx
      exact one p hp (.inr hj)
  | dead => simp [AObj.refs] at hj
  | fix => simp [AObj.refs] at hj
  | loop env ps as b y =>
    obtain ⟨R, N, _, _, _, _, _, _, h7⟩ := h
    simp only [AObj.refs] at hj
    obtain ⟨p, hp, hj⟩ := env_roots_mem.1 hj
    exact arep_lt (h7 p hp) j hj
  | text => simp [AObj.refs] at hj
theorem own_bounded {call : Calls'} (hcall : CallOK num P call) {C : Cx} {s : St} {a : Act} (hs : SRep num C s a) {op : Op} {fn : Nat} {l : List Src} {as : List AV} {r : AV} {mc : Mem} (htr : trOp P num op = some (XOp.call .view fn l)) (has : (l.map s.env.ev).mapM (frz s.mem) = some as) (hc : call fn as [] = some (r, mc)) :
    (∀ id ∈ r.refs, id < mc.length) ∧ ∀ o ∈ mc, ∀ id ∈ o.refs, id < mc.length := by
  have : ∃ f args ats, op = .call ⟨.value (.func f), args, ats⟩ ∧ num f = fn ∧ args.toList.mapM (trSrc num) = some l := by
    have hm1 : ∀ {o : Operand} {g : Src → XOp}, (∀ y, g y ≠ .call .view fn l) → (trSrc num o).map g ≠ some (.call .view fn l) := by
      intro o g hg h
      cases ho : trSrc num o with
      | none => rw [ho] at h; cases h
      | some y => rw [ho] at h; exact hg y (Option.some.inj h)
    cases op with
    | call c =>
      obtain ⟨callee, args, ats⟩ := c
      simp only [trOp] at htr
      cases callee with
      | invoke => simp [trCall] at htr
      | builtin b =>
        simp only [trCall] at htr
        repeat' (first | (cases htr; done) | exact absurd htr (hm1 fun y hy => by cases hy) | split at htr)
      | value fo =>
        cases fo with
        | func f =>
          simp only [trCall, Option.map_eq_some_iff] at htr
          obtain ⟨ys, hy, hx⟩ := htr
          cases hx
          exact ⟨f, args, ats, rfl, rfl, hy⟩
        | _ =>
          simp only [trCall] at htr
          repeat' (first | (cases htr; done) | split at htr)
    | makeFunc f fi cs =>
      cases f <;> simp only [trOp] at htr <;> repeat' (first | (cases htr; done) | split at htr)
      simp only [Option.map_eq_some_iff] at htr
      obtain ⟨_, _, h⟩ := htr
      cases h
    | build t ps =>
      simp only [trOp] at htr
      repeat' (first | (cases htr; done) | (simp only [Option.map_eq_some_iff] at htr; obtain ⟨_, _, h⟩ := htr; cases h; done) | split at htr)
    | buildSlice t n ps =>
      simp only [trOp] at htr
      repeat' (first | (cases htr; done) | (simp only [Option.map_eq_some_iff] at htr; obtain ⟨_, _, h⟩ := htr; cases h; done) | split at htr)
    | slice t o lo hi mx =>
      cases mx <;> cases lo <;> cases hi <;> simp only [trOp] at htr <;> repeat' (first | (cases htr; done) | split at htr)
    | _ =>
      simp only [trOp] at htr
      repeat' (first | (cases htr; done) | exact absurd htr (hm1 fun y hy => by cases hy) | split at htr)
  obtain ⟨f, args, ats, rfl, rfl, hy⟩ := this
  obtain ⟨hl, hr⟩ := args_rep hs args.toList l hy
  obtain ⟨h1, h2⟩ := args_frz hs.mem has hl hr (C.view s.mem num) (fun _ h => h) rfl
  obtain ⟨_, hcs⟩ := hcall.fn f as [] r mc _ _ hc (view_rep hs.mem) h1 h2
  obtain ⟨e, w', fr, ⟨v, D, _, _, hst, hrv⟩, _⟩ := hcs []
  have hn := hst.rep.len
  refine ⟨fun id hid => by have := arep_lt hrv id hid; omega, fun o ho id hid => ?_⟩
  obtain ⟨i, hi⟩ := List.getElem?_of_mem ho
  have := orep_lt (hst.rep.obj i o hi) id hid
  omega
theorem trOps_all {call : Calls'} {N : Nat} {ops : Array Oper} : ∀ (l : List Oper) (xs : List XO) {s s' : St}, trOps P num N ops l = xs.map XO.wipe → exOps call s xs = some s' → ∀ (i : Nat) (o : Oper), l[i]? = some o → ∃ x : XO, xs[i]? = some x ∧ trOper P num N ops o = some x.wipe
  | [], _, _, _, _, _, i, o, ho => by simp at ho
  | o :: l, xs, s, s', htr, h, i, o', hi => by
    simp only [trOps] at htr
    cases ho : trOper P num N ops o with
    | none =>
      rw [ho] at htr
      cases xs with
      | nil => simp at htr
      | cons x r =>
        simp only [List.map_cons, List.cons.injEq] at htr
        have hb : x.wipe = badOp := htr.1.symm
        have h1 : x.op = .callV (.c (.bool true)) [] ∧ x.guard = none := by
          obtain ⟨d, op, g⟩ := x
          simp only [XO.wipe, badOp, XO.mk.injEq] at hb
          obtain ⟨_, h2, h3⟩ := hb
          refine ⟨?_, h3⟩
          cases op <;> simp only [XOp.wipe, reduceCtorEq] at h2
          exact h2
        simp only [exOps] at h
        unfold exOne at h
        simp only [h1.1, h1.2, exOp, Env.ev, Option.map_none, Option.bind_none] at h
        cases h
    | some y =>
      rw [ho] at htr
      cases xs with
      | nil => simp at htr
      | cons x r =>
        simp only [List.map_cons, List.cons.injEq] at htr
        simp only [exOps] at h
        cases hx : exOne call s x with
        | none => rw [hx] at h; cases h
        | some s1 =>
          rw [hx] at h
          cases i with
          | zero => simp at hi; subst hi; exact ⟨x, rfl, by rw [ho, htr.1]⟩
          | succ i => exact trOps_all l r htr.2 h i o' (by simpa using hi)
theorem trOps_of {N : Nat} {ops : Array Oper} : ∀ (l : List Oper) (xs : List XO), l.length = xs.length → (∀ (i : Nat) (o : Oper), l[i]? = some o → ∃ x : XO, xs[i]? = some x ∧ trOper P num N ops o = some x.wipe) → trOps P num N ops l = xs.map XO.wipe
  | [], xs, hl, _ => by cases xs with | nil => rfl | cons => cases hl
  | o :: l, xs, hl, h => by
    cases xs with
    | nil => cases hl
    | cons x r =>
      obtain ⟨y, hy, ho⟩ := h 0 o rfl
      simp at hy; subst hy
      simp only [trOps, ho, List.map_cons]
      rw [trOps_of l r (by simpa using hl) fun i o hi => h (i + 1) o (by simpa using hi)]
theorem headArr_of {m n : Nat} {listed : Array Bool} (hs : listed.size = m) (hn : n ≤ m) (h1 : ∀ i, i < n → listed.getD i true = true) (h2 : ∀ t, n ≤ t → t < m → listed.getD t true = false) : listed = headArr m n := by
  apply Array.ext
  · simp [headArr, hs]
  · intro i hi _
    have hi' : i < m := by omega
    have : listed[i] = listed.getD i true := by simp [hi]
    rw [this]
    by_cases hin : i < n
    · rw [h1 i hin]; simp [headArr, hin]
    · rw [h2 i (by omega) hi']; simp [headArr, hin]
theorem pick_step' {C : Cx} {m : Mem} (hm : MRep num C m) {k : Nat} {l : List Nat} (hn : l.Nodup) (hk : ∀ i, i < k → l[i]? = some i) (hkl : k ≤ l.length) : Step num k C m (C.pick l) (m.pickAll l) := by
  have hown : ∀ b, Own (C.pick l) (m.pickAll l) b → Own C m b := by
    intro b hb
    obtain ⟨id, o, _, ho, hl, hb⟩ := pick_own hb
    exact ⟨id, o, ho, hl, hb⟩
  refine ⟨pick_rep hm hn, rfl, rfl, rfl, Nat.le_refl _, fun _ _ _ => rfl, fun _ _ _ h => h, fun _ h => h, fun _ h => .inl h, fun b hb => .inr (hown b hb), fun i hi p hp hmv => ?_, by rw [Mem.pickAll, List.length_map]; exact hkl⟩
  obtain ⟨id, h3, rfl⟩ := pick_get hp
  rw [hk i hi] at h3
  cases h3
  rw [ren_moved] at hmv
  obtain ⟨o, ho, he⟩ := getD_moved hmv
  rw [he] at hmv
  exact ⟨o, ho, hmv, pick_σ (hk i hi)⟩
theorem pick_later {C : Cx} {s : St} {a : Act} (hs : SRep num C s a) {l : List Nat} (hn : l.Nodup) (hk : ∀ i, i < s.k → l[i]? = some i) (hkl : s.k ≤ l.length) : Later num s.k C s.mem a (C.pick l) { k := s.k, env := s.env.ren (place l), mem := s.mem.pickAll l } a := by
  have hst := pick_step' hs.mem hn hk hkl
  exact ⟨⟨hst.rep, hs.env.tr (pick_tr _), hst.len⟩, hst, rfl, rfl, fun _ _ h => h⟩
theorem room_later {C : Cx} {s : St} {a : Act} (hs : SRep num C s a) (d : Nat) : Later num s.k C s.mem a { C with n := C.n + d } { s with mem := s.mem ++ List.replicate d AObj.dead } a := by
  have hm := hs.mem
  have ht : Tr some C { C with n := C.n + d } := ⟨fun _ h => h, fun _ _ => rfl, fun id j hid hj => by cases hj; exact ⟨by show _ < C.n + d; omega, rfl, fun _ _ h => h⟩⟩
  have split : ∀ (i : Nat) (p : AObj), (s.mem ++ List.replicate d AObj.dead)[i]? = some p → s.mem[i]? = some p ∨ p = .dead := by
    intro i p hp
    rcases Nat.lt_or_ge i s.mem.length with h | h
    · rw [List.getElem?_append_left h] at hp; exact .inl hp
    · rw [List.getElem?_append_right h] at hp
      exact .inr (List.eq_of_mem_replicate (List.mem_of_getElem? hp))
  have hown : ∀ b, Own { C with n := C.n + d } (s.mem ++ List.replicate d AObj.dead) b → Own C s.mem b := by
    rintro b ⟨i, p, hp, hl, hb⟩
    rcases split i p hp with h | rfl
    · exact ⟨i, p, h, hl, hb⟩
    · cases hl
  have hk : s.k ≤ (s.mem ++ List.replicate d AObj.dead).length := by have := hs.k; simp; omega
  have hrep : MRep num { C with n := C.n + d } (s.mem ++ List.replicate d AObj.dead) := by
    refine ⟨by simp [hm.len], fun i p hp => ?_, fun i j p q hp hq hlp hlq he => ?_, fun b hb => hm.imm b (hown b hb), hm.bd, hm.glo⟩
    · rcases split i p hp with h | rfl
      · exact orep_mono ht rfl (fun _ h => h) (hm.obj i p h)
      · trivial
    · rcases split i p hp with h | rfl
      · rcases split j q hq with h' | rfl
        · exact hm.inj i j p q h h' hlp hlq he
        · cases hlq
      · cases hlp
  refine ⟨⟨hrep, hs.env.mono ht, hk⟩, ⟨hrep, rfl, rfl, rfl, Nat.le_refl _, fun _ _ _ => rfl, fun _ _ _ h => h, fun _ h => h, fun _ h => .inl h, fun b hb => .inr (hown b hb), fun i _ p hp hmv => ?_, hk⟩, rfl, rfl, fun _ _ h => h⟩
  rcases split i p hp with h | rfl
  · exact ⟨p, h, hmv, rfl⟩
  · cases hmv
structure Drawn (call : Calls') (P : Program) (num : Names) (N : Nat) (ops : Array Oper) (xs : List XO) (n : Nat) (s0 sF : St) (S : Nat → St) (sp : Nat → Bool) : Prop where
  len : xs.length = ops.size
  hn : n ≤ ops.size
  tr : ∀ (i : Nat) o, sp i = false → ops[i]? = some o → ∃ x : XO, xs[i]? = some x ∧ trOper P num N ops o = some x.wipe
  quiet : ∀ (i : Nat) x, i < n → xs[i]? = some x → (calmOp x.op || makeOp x.op) = true
  one : ∀ (i j : Nat) x y d, i < n → j < n → xs[i]? = some x → xs[j]? = some y → y.dst = some d → (i = j ∨ x.dst ≠ some d) ∧ (d ∈ x.reads → j < i ∧ Region.waitsFor .any ops i j = true)
  low : ∀ (i : Nat) o, i < n → ops[i]? = some o → ∀ e ∈ o.after, Region.binds .any e = true → e.on < i
  S0 : S 0 = s0
  go : ∀ (i : Nat) x, xs[i]? = some x → exOne call (S i) x = some (S (i + 1))
  fin : S xs.length = sF
  step : ∀ (i : Nat) x, i < n → xs[i]? = some x → exOne call (S i) x = some (S (i + 1))
  rest : exOps call (S n) (xs.drop n) = some sF
section
variable {call : Calls'} {N : Nat} {ops : Array Oper} {xs : List XO} {n : Nat} {s0 sF : St} {S : Nat → St} {sp : Nat → Bool}
def Live (S : Nat → St) (n : Nat) (listed : Array Bool) (id : Nat) : Prop := ∀ j, j < n → (S j).mem.length ≤ id → id < (S (j + 1)).mem.length → listed.getD j true = true
structure Part (xs : List XO) (n : Nat) (S : Nat → St) (listed : Array Bool) (t : St) : Prop where
  len : t.mem.length = (S n).mem.length
  k : t.k = (S 0).k
  k0 : (S 0).k ≤ (S 0).mem.length
  live : ∀ id, id < (S n).mem.length → Live S n listed id → t.mem[id]? = (S n).mem[id]?
  dead : ∀ id, id < (S n).mem.length → ¬ Live S n listed id → t.mem[id]? = some .dead
  done : ∀ (i : Nat) x u, i < n → xs[i]? = some x → x.dst = some u → listed.getD i true = true → t.env.get u = (S (i + 1)).env.get u ∧ ∀ id ∈ (t.env.get u).refs, Live S n listed id ∧ id < (S (i + 1)).mem.length
  not : ∀ u, (∀ (i : Nat) x, i < n → xs[i]? = some x → x.dst = some u → listed.getD i true = false) → t.env.get u = (S 0).env.get u ∧ ∀ id ∈ (t.env.get u).refs, id < (S 0).mem.length
  mem : ∀ (id : Nat) o, t.mem[id]? = some o → ∀ j ∈ o.refs, Live S n listed j ∧ ∀ i, i ≤ n → id < (S i).mem.length → j < (S i).mem.length
end
section
variable {call : Calls'} {N : Nat} {ops : Array Oper} {xs : List XO} {n : Nat} {s0 sF : St} {S : Nat → St} {sp : Nat → Bool}
theorem make_adds {x : XOp} (hc : makeOp x = true) {s s' : St} {r : AV} (h : exOp call s x = some (r, s')) : ∃ new, s' = { s with mem := s.mem ++ new } := by
  cases x with
  | alloc zs => cases h; exact ⟨_, rfl⟩
  | allocB off zs => cases h; exact ⟨_, rfl⟩
  | boxB off n y =>
    simp only [exOp] at h
    split at h
    · split at h
      · split at h
        · cases h; exact ⟨_, rfl⟩
        · cases h
      · cases h
    · cases h
  | box n y =>
    simp only [exOp, Option.map_eq_some_iff] at h
    obtain ⟨cs, _, h⟩ := h
    cases h; exact ⟨_, rfl⟩
  | buildSlice sz zs len ps =>
    simp only [exOp, Option.map_eq_some_iff] at h
    obtain ⟨cs, _, h⟩ := h
    cases h; exact ⟨_, rfl⟩
  | makeSlice sz bytes zs l c =>
    simp only [exOp] at h
    split at h
    · split at h
      · cases h; exact ⟨_, rfl⟩
      · cases h
    · cases h
  | makeMap hint =>
    simp only [exOp] at h
    split at h
    · cases h; exact ⟨_, rfl⟩
    · split at h
      · cases h; exact ⟨_, rfl⟩
      · cases h
  | call mode fn l =>
    cases mode with
    | own =>
      simp only [exOp, exOwn] at h
      split at h
      · cases h
      · split at h
        · cases h
        · split at h
          · cases h; exact ⟨_, rfl⟩
          · cases h
    | look =>
      simp only [exOp, exLook] at h
      split at h
      · cases h
      · split at h
        · cases h; exact ⟨_, rfl⟩
        · cases h
    | view => cases hc
    | share => cases hc
    | peek => cases hc
  | _ => cases hc
theorem quiet_adds {x : XO} (hc : (calmOp x.op || makeOp x.op) = true) {s s' : St} (h : exOne call s x = some s') : ∃ new v, s' = ({ s with mem := s.mem ++ new } : St).bind x.dst v := by
  have nil : ∀ (u : St), ({ u with mem := u.mem ++ [] } : St) = u := fun u => by cases u; simp
  rcases exOne_bind h with ⟨v, s1, hx, rfl, hg⟩ | ⟨rfl, u, b, hg, hcc⟩
  · by_cases hcalm : calmOp x.op = true
    · obtain ⟨rfl, _, _⟩ := calm_congr (K := fun _ => True) hcalm (t := s) ⟨fun _ _ => rfl, fun _ _ _ _ _ _ => trivial⟩ (fun _ _ => rfl) (fun _ _ _ _ => trivial) hx
      exact ⟨[], v, by rw [nil]⟩
    · have hmake : makeOp x.op = true := by simpa [hcalm] using hc
      obtain ⟨new, rfl⟩ := make_adds hmake hx
      exact ⟨new, v, rfl⟩
  · exact ⟨[], .tup [], by rw [nil]⟩
theorem Drawn.add (d : Drawn call P num N ops xs n s0 sF S sp) {i : Nat} (hi : i < n) {x : XO} (hx : xs[i]? = some x) : ∃ new v, S (i + 1) = ({ S i with mem := (S i).mem ++ new } : St).bind x.dst v := quiet_adds (d.quiet i x hi hx) (d.step i x hi hx)
theorem Drawn.at (d : Drawn call P num N ops xs n s0 sF S sp) {i : Nat} (hi : i < n) : ∃ x, xs[i]? = some x := by
  have : i < xs.length := by have := d.hn; have := d.len; omega
  exact ⟨_, List.getElem?_eq_getElem this⟩
theorem Drawn.pre (d : Drawn call P num N ops xs n s0 sF S sp) (i : Nat) : ∀ j, i ≤ j → j ≤ n → (S i).mem.length ≤ (S j).mem.length ∧ (∀ id, id < (S i).mem.length → (S j).mem[id]? = (S i).mem[id]?) ∧ (S j).k = (S i).k := by
  intro j
  induction j with
  | zero => intro h _; have : i = 0 := by omega
            subst this; exact ⟨Nat.le_refl _, fun _ _ => rfl, rfl⟩
  | succ j ih =>
    intro hij hj
    by_cases hi : i = j + 1
    · subst hi; exact ⟨Nat.le_refl _, fun _ _ => rfl, rfl⟩
    · obtain ⟨h1, h2, h3⟩ := ih (by omega) (by omega)
      obtain ⟨x, hx⟩ := d.at (show j < n by omega)
      obtain ⟨new, v, he⟩ := d.add (show j < n by omega) hx
      rw [he, bind_mem, bind_k]
      refine ⟨by simp; omega, fun id hid => ?_, h3⟩
      rw [List.getElem?_append_left (by omega)]
      exact h2 id hid
theorem Drawn.get (d : Drawn call P num N ops xs n s0 sF S sp) (t : Nat) (i : Nat) : ∀ j, i ≤ j → j ≤ n → (∀ (k : Nat) x, i ≤ k → k < j → xs[k]? = some x → x.dst ≠ some t) → (S j).env.get t = (S i).env.get t := by
  intro j
  induction j with
  | zero => intro hij _ _; have : i = 0 := by omega
            subst this; rfl
  | succ j ih =>
    intro hij hj h
    by_cases hi : i = j + 1
    · subst hi; rfl
    · obtain ⟨x, hx⟩ := d.at (show j < n by omega)
      obtain ⟨new, v, he⟩ := d.add (show j < n by omega) hx
      rw [he, bind_get, if_neg (h j _ (by omega) (by omega) hx)]
      exact ih (by omega) (by omega) fun k x h1 h2 h3 => h k x h1 (by omega) h3
theorem ready_waits {listed : Array Bool} {i j : Nat} (h : i ∈ Region.ready .any ops listed) (hw : Region.waitsFor .any ops i j = true) : listed.getD j false = true := by
  obtain ⟨_, o, ho, hall⟩ := mem_ready.1 h
  obtain ⟨o', ho', e, he, hb, hon⟩ := Region.waitsFor_spec hw
  have : o' = o := Option.some.inj (ho'.symm.trans ho)
  subst this
  rw [← hon]
  exact hall e he hb
theorem getD_up {listed : Array Bool} {i : Nat} (h : listed.getD i false = true) : listed.getD i true = true := by
  rcases Nat.lt_or_ge i listed.size with h' | h'
  · simp [h'] at h ⊢; exact h
  · simp [Array.getElem?_eq_none h'] at h
def swapIn (M p len : Nat) : List Nat := (List.range M).map fun id => if p ≤ id ∧ id < p + len then M + (id - p) else id
theorem swapIn_get {M p len id : Nat} (h : id < M) : (swapIn M p len)[id]? = some (if p ≤ id ∧ id < p + len then M + (id - p) else id) := by
  simp [swapIn, h]
theorem swapIn_nodup (M p len : Nat) : (swapIn M p len).Nodup := by
  unfold swapIn
  refine List.pairwise_map.2 (List.Pairwise.imp_of_mem ?_ List.nodup_range)
  intro a b ha hb hab h
  have := List.mem_range.1 ha
  have := List.mem_range.1 hb
  split at h <;> split at h <;> omega
theorem swapIn_back {M p len j : Nat} (hj : j < len) (hp : p + len ≤ M) : place (swapIn M p len) (M + j) = some (p + j) := by
  refine place_of _ _ _ (swapIn_nodup ..) ?_
  rw [swapIn_get (by omega), if_pos ⟨by omega, by omega⟩]
  exact congrArg some (by omega)
theorem swapIn_stay {M p len id : Nat} (h : id < M) (hn : ¬ (p ≤ id ∧ id < p + len)) : place (swapIn M p len) id = some id := by
  refine place_of _ _ _ (swapIn_nodup ..) ?_
  rw [swapIn_get h, if_neg hn]
theorem Drawn.part_step (d : Drawn call P num N ops xs n s0 sF S sp) (hcall : CallOK num P call) {listed : Array Bool} {t : St} (p : Part xs n S listed t) {i : Nat} (hi : i < n) (hr : i ∈ Region.ready .any ops listed) {x : XO} (hx : xs[i]? = some x) {o : Oper} (htr : ∀ fn l, x.op = .call .own fn l → trOp P num o.op = some (XOp.call .view fn l)) {C : Cx} {a : Act} (hs : SRep num C t a) :
    ∃ t1, exOne call t x = some t1 ∧ ∀ D a', SRep num D t1 a' → ∃ t2 E, E.w = D.w ∧ Later num t1.k D t1.mem a' E t2 a' ∧ Part xs n S (listed.setIfInBounds i true) t2 := by
  have hun : listed.getD i true = false := (mem_ready.1 hr).1
  have pre := fun (i j : Nat) (h1 : i ≤ j) (h2 : j ≤ n) => d.pre i j h1 h2
  have mono : ∀ i j, i ≤ j → j ≤ n → (S i).mem.length ≤ (S j).mem.length := fun i j h1 h2 => (pre i j h1 h2).1
  let K : Nat → Prop := fun id => id < (S i).mem.length ∧ Live S n listed id
  have live0 : ∀ id, id < (S 0).mem.length → Live S n listed id := fun id h j hj h1 _ => by have := mono 0 j (by omega) (by omega); omega
  have hAgree : Agree K (S i).mem t.mem := by
    have same : ∀ id, K id → t.mem[id]? = (S i).mem[id]? := fun id ⟨h1, h2⟩ => by
      have := mono i n (by omega) (Nat.le_refl _)
      rw [p.live id (by omega) h2]
      exact (pre i n (by omega) (Nat.le_refl _)).2.1 id h1
    refine ⟨same, fun id o' hk ho' j hj => ?_⟩
    obtain ⟨h1, h2⟩ := p.mem id o' (by rw [same id hk]; exact ho') j hj
    exact ⟨h2 i (by omega) hk.1, h1⟩
  have hreads : ∀ u ∈ x.reads, t.env.get u = (S i).env.get u ∧ In K ((S i).env.get u) := by
    intro u hu
    by_cases hw : ∃ (j : Nat) (y : XO), j < n ∧ xs[j]? = some y ∧ y.dst = some u
    · obtain ⟨j, y, hj, hy, hd⟩ := hw
      obtain ⟨h3, h4⟩ := (d.one i j x y u hi hj hx hy hd).2 hu
      obtain ⟨h5, h6⟩ := p.done j y u hj hy hd (getD_up (ready_waits hr h4))
      have h7 := d.get u (j + 1) i (by omega) (by omega) fun k z h5 h6 h7 => by
        rcases (d.one k j z y u (by omega) hj h7 hy hd).1 with h | h
        · omega
        · exact h
      have h8 : t.env.get u = (S i).env.get u := h5.trans h7.symm
      refine ⟨h8, fun id hid => ?_⟩
      rw [← h8] at hid
      obtain ⟨h9, h10⟩ := h6 id hid
      have := mono (j + 1) i (by omega) (by omega)
      exact ⟨by omega, h9⟩
    · have hno : ∀ (j : Nat) (y : XO), j < n → xs[j]? = some y → y.dst ≠ some u := fun j y h1 h2 h3 => hw ⟨j, y, h1, h2, h3⟩
      obtain ⟨h5, h6⟩ := p.not u fun j y h1 h2 h3 => absurd h3 (hno j y h1 h2)
      have h7 := d.get u 0 i (Nat.zero_le _) (by omega) fun k z _ h6 h7 => hno k z (by omega) h7
      have h8 : t.env.get u = (S i).env.get u := h5.trans h7.symm
      refine ⟨h8, fun id hid => ?_⟩
      rw [← h8] at hid
      have h9 := h6 id hid
      have := mono 0 i (by omega) (by omega)
      exact ⟨by omega, live0 id h9⟩
  have hb : ∀ fn l as r mc, x.op = .call .own fn l → (l.map (S i).env.ev).mapM (frz (S i).mem) = some as → call fn as [] = some (r, mc) → (∀ id ∈ r.refs, id < mc.length) ∧ ∀ o ∈ mc, ∀ id ∈ o.refs, id < mc.length := by
    intro fn l as r mc hop has hc
    have hsub : ∀ u ∈ l.flatMap srcTmp, u ∈ x.reads := fun u hu => List.mem_append.2 (.inr (List.mem_append.2 (.inl (by rw [hop]; exact hu))))
    have hin : InL K (l.map (S i).env.ev) := fun y hy => by
      obtain ⟨q, hq, rfl⟩ := List.mem_map.1 hy
      exact in_ev fun u hu => (hreads u (hsub u (List.mem_flatMap.2 ⟨q, hq, hu⟩))).2
    refine own_bounded hcall hs (op := o.op) (l := l) (fn := fn) (htr fn l hop) (as := as) ?_ hc
    rw [evL_congr (s := (S i).env) (t := t.env) fun u hu => (hreads u (hsub u hu)).1, mapM_congr _ fun y hy => frz_agree hAgree y (hin y hy)]
    exact has
  obtain ⟨len, val, new, hmk, hS, ht1⟩ := one_congr (d.quiet i x hi hx) hAgree (fun u hu => (hreads u hu).1) (fun u hu => (hreads u hu).2) hb (d.step i x hi hx)
  refine ⟨_, ht1, fun D a' hD => ?_⟩
  have hlen := p.len
  rw [hlen] at hD ⊢
  generalize hM : (S n).mem.length = M at hD hlen ⊢
  have hpos1 : (S (i + 1)).mem.length = (S i).mem.length + len := by rw [hS, bind_mem]; simp [hmk.size]
  have hpM : (S i).mem.length + len ≤ M := by rw [← hpos1, ← hM]; exact mono (i + 1) n (by omega) (Nat.le_refl _)
  generalize hl : swapIn M (S i).mem.length len = l
  have hlget : ∀ id, id < M → l[id]? = some (if (S i).mem.length ≤ id ∧ id < (S i).mem.length + len then M + (id - (S i).mem.length) else id) := fun id h => by rw [← hl]; exact swapIn_get h
  have hllen : l.length = M := by rw [← hl]; simp [swapIn]
  have hlnd : l.Nodup := by rw [← hl]; exact swapIn_nodup ..
  generalize hf : place l = f
  have hf1 : ∀ j, j < len → f (M + j) = some ((S i).mem.length + j) := fun j hj => by rw [← hf, ← hl]; exact swapIn_back hj hpM
  have hf2 : ∀ id, id < M → ¬ ((S i).mem.length ≤ id ∧ id < (S i).mem.length + len) → f id = some id := fun id h1 h2 => by rw [← hf, ← hl]; exact swapIn_stay h1 h2
  have hnr : ∀ id, Live S n listed id → ¬ ((S i).mem.length ≤ id ∧ id < (S i).mem.length + len) := fun id h ⟨h1, h2⟩ => by
    have := h i hi h1 (by omega)
    rw [hun] at this; cases this
  have hf3 : ∀ id, Live S n listed id → id < M → f id = some id := fun id h1 h2 => hf2 id h2 (hnr id h1)
  have hiM : (S i).mem.length ≤ M := by omega
  obtain ⟨hv, hn⟩ := hmk.ren M (S i).mem.length f hf1 fun id hk => hf3 id hk.2 (by have := hk.1; omega)
  have h0i : (S 0).mem.length ≤ (S i).mem.length := mono 0 i (by omega) (by omega)
  have hk0 := p.k0
  have hkt := p.k
  have ht1k : (({ t with mem := t.mem ++ new M } : St).bind x.dst (val M)).k = (S 0).k := by rw [bind_k]; exact hkt
  have hlat := pick_later hD hlnd (fun j hj => by
    rw [ht1k] at hj
    rw [hlget j (by omega), if_neg (by omega)]) (by rw [ht1k, hllen]; omega)
  rw [hf] at hlat
  refine ⟨_, D.pick l, rfl, hlat, ?_⟩
  have hset : ∀ j, j ≠ i → (listed.setIfInBounds i true).getD j true = listed.getD j true := fun j hj => getD_set_ne true (Ne.symm hj)
  have hseti : (listed.setIfInBounds i true).getD i true = true := by
    rw [Array.getD_eq_getD_getElem?, Array.getElem?_setIfInBounds]
    split <;> (try split) <;> simp_all
  have up1 : ∀ id, Live S n listed id → Live S n (listed.setIfInBounds i true) id := fun id h j hj h1 h2 => by
    by_cases hji : j = i
    · subst hji; exact hseti
    · rw [hset j hji]; exact h j hj h1 h2
  have up2 : ∀ id, (S i).mem.length ≤ id → id < (S i).mem.length + len → Live S n (listed.setIfInBounds i true) id := fun id h1 h2 j hj h3 h4 => by
    by_cases hji : j = i
    · subst hji; exact hseti
    · exfalso
      rcases Nat.lt_or_ge j i with h | h
      · have := mono (j + 1) i (by omega) (by omega); omega
      · have := mono (i + 1) j (by omega) (by omega); omega
  have down : ∀ id, Live S n (listed.setIfInBounds i true) id → ¬ ((S i).mem.length ≤ id ∧ id < (S i).mem.length + len) → Live S n listed id := fun id h hno j hj h1 h2 => by
    by_cases hji : j = i
    · subst hji; exact absurd ⟨h1, by omega⟩ hno
    · rw [← hset j hji]; exact h j hj h1 h2
  have hnewM : (new M).length = len := hmk.size M
  have get1 : ∀ id, id < M → ¬ ((S i).mem.length ≤ id ∧ id < (S i).mem.length + len) → (Mem.pickAll (({ t with mem := t.mem ++ new M } : St).bind x.dst (val M)).mem l)[id]? = t.mem[id]? := by
    intro id hid hno
    rw [bind_mem, Mem.pickAll, List.getElem?_map, hlget id hid, if_neg hno]
    simp only [Option.map_some]
    rw [List.getElem?_append_left (by omega)]
    have hq : t.mem[id]? = some t.mem[id] := List.getElem?_eq_getElem (by omega)
    rw [hq]
    simp only [Option.getD_some, Option.some.injEq]
    rw [hf]
    refine obj_ren_id fun j hj => ?_
    obtain ⟨h1, h2⟩ := p.mem id _ hq j hj
    exact hf3 j h1 (by have := h2 n (Nat.le_refl _) (by omega); omega)
  have get2 : ∀ j, j < len → (Mem.pickAll (({ t with mem := t.mem ++ new M } : St).bind x.dst (val M)).mem l)[(S i).mem.length + j]? = (new (S i).mem.length)[j]? := by
    intro j hj
    rw [bind_mem, Mem.pickAll, List.getElem?_map, hlget _ (by omega), if_pos ⟨by omega, by omega⟩]
    simp only [Option.map_some]
    rw [show M + ((S i).mem.length + j - (S i).mem.length) = M + j by omega, List.getElem?_append_right (by omega), show M + j - t.mem.length = j by omega]
    rw [← hn, List.getElem?_map, hf]
    have hq : (new M)[j]? = some (new M)[j] := List.getElem?_eq_getElem (by omega)
    rw [hq]; rfl
  have new_get : ∀ j, j < len → (new (S i).mem.length)[j]? = (S n).mem[(S i).mem.length + j]? := by
    intro j hj
    rw [(pre (i + 1) n (by omega) (Nat.le_refl _)).2.1 _ (by omega), hS, bind_mem, List.getElem?_append_right (by omega), show (S i).mem.length + j - (S i).mem.length = j by omega]
  have envKeep : ∀ u, (∀ id ∈ (t.env.get u).refs, Live S n listed id ∧ id < M) → (t.env.get u).ren f = t.env.get u := fun u h => ren_id fun id hid => hf3 id (h id hid).1 (h id hid).2
  refine ⟨?_, ht1k, hk0, fun id hid hlv => ?_, fun id hid hno => ?_, fun j y u hj hy hd hlj => ?_, fun u hu => ?_, fun id o' ho' j hj => ?_⟩
  · show (Mem.pickAll _ l).length = _
    rw [Mem.pickAll, List.length_map, hllen, hM]
  · rw [hM] at hid
    by_cases hin : (S i).mem.length ≤ id ∧ id < (S i).mem.length + len
    · show (Mem.pickAll _ l)[id]? = _
      have h1 := get2 (id - (S i).mem.length) (by omega)
      have h2 := new_get (id - (S i).mem.length) (by omega)
      rw [show (S i).mem.length + (id - (S i).mem.length) = id by omega] at h1 h2
      exact h1.trans h2
    · exact (get1 id hid hin).trans (p.live id (by omega) (down id hlv hin))
  · rw [hM] at hid
    have hin : ¬ ((S i).mem.length ≤ id ∧ id < (S i).mem.length + len) := fun h => hno (up2 id h.1 h.2)
    exact (get1 id hid hin).trans (p.dead id (by omega) fun h => hno (up1 id h))
  · have heq : ∀ v, (Env.ren f (({ t with mem := t.mem ++ new M } : St).bind x.dst (val M)).env).get u = v ↔ (if x.dst = some u then val M else t.env.get u).ren f = v := fun v => by rw [env_ren_get, bind_get]
    show (Env.ren f _).get u = _ ∧ _
    by_cases hji : j = i
    · subst hji
      have : y = x := Option.some.inj (hy.symm.trans hx)
      subst this
      have h1 : (Env.ren f (({ t with mem := t.mem ++ new M } : St).bind y.dst (val M)).env).get u = val (S j).mem.length := by
        rw [heq, if_pos hd]; exact hv
      refine ⟨h1.trans (by rw [hS, bind_get, if_pos hd]), fun id hid => ?_⟩
      have hid' : id ∈ (val (S j).mem.length).refs := by rw [← h1]; exact hid
      rcases hmk.inV _ id hid' with h | h
      · exact ⟨up1 id h.2, by have := h.1; omega⟩
      · exact ⟨up2 id h.1 h.2, by omega⟩
    · have hne : x.dst ≠ some u := by
        rcases (d.one i j x y u hi hj hx hy hd).1 with h | h
        · exact absurd h.symm hji
        · exact h
      obtain ⟨h2, h3⟩ := p.done j y u hj hy hd (by rw [← hset j hji]; exact hlj)
      have h1 : (Env.ren f (({ t with mem := t.mem ++ new M } : St).bind x.dst (val M)).env).get u = t.env.get u := by
        rw [heq, if_neg hne]
        exact envKeep u fun id hid => ⟨(h3 id hid).1, by have := (h3 id hid).2; have := mono (j + 1) n (by omega) (Nat.le_refl _); omega⟩
      refine ⟨h1.trans h2, fun id hid => ?_⟩
      have hid' : id ∈ (t.env.get u).refs := by rw [← h1]; exact hid
      exact ⟨up1 id (h3 id hid').1, (h3 id hid').2⟩
  · have hne : x.dst ≠ some u := fun h => by
      have := hu i x hi hx h
      rw [hseti] at this; cases this
    obtain ⟨h2, h3⟩ := p.not u fun j y h3 h4 h5 => by
      have hji : j ≠ i := fun h => by
        subst h
        have : y = x := Option.some.inj (h4.symm.trans hx)
        subst this
        exact hne h5
      rw [← hset j hji]
      exact hu j y h3 h4 h5
    have h1 : (Env.ren f (({ t with mem := t.mem ++ new M } : St).bind x.dst (val M)).env).get u = t.env.get u := by
      rw [env_ren_get, bind_get, if_neg hne]
      exact envKeep u fun id hid => ⟨live0 id (h3 id hid), by have := h3 id hid; omega⟩
    exact ⟨h1.trans h2, fun id hid => h3 id (by rw [← h1]; exact hid)⟩
  · have hid : id < M := by
      have h1 : id < (Mem.pickAll (({ t with mem := t.mem ++ new M } : St).bind x.dst (val M)).mem l).length := (List.getElem?_eq_some_iff.1 ho').1
      have h2 : (Mem.pickAll (({ t with mem := t.mem ++ new M } : St).bind x.dst (val M)).mem l).length = M := by rw [Mem.pickAll, List.length_map, hllen]
      omega
    by_cases hin : (S i).mem.length ≤ id ∧ id < (S i).mem.length + len
    · have h1 := get2 (id - (S i).mem.length) (by omega)
      rw [show (S i).mem.length + (id - (S i).mem.length) = id by omega] at h1
      have hmem : o' ∈ new (S i).mem.length := List.mem_of_getElem? (h1.symm.trans ho')
      rcases hmk.inN _ o' hmem j hj with h | h
      · exact ⟨up1 j h.2, fun i' _ h2 => by have := h.1; omega⟩
      · refine ⟨up2 j h.1 h.2, fun i' hi' h2 => ?_⟩
        rcases Nat.lt_or_ge i i' with h3 | h3
        · have := mono (i + 1) i' (by omega) hi'; omega
        · have := mono i' i h3 (by omega); omega
    · obtain ⟨h1, h2⟩ := p.mem id o' ((get1 id hid hin).symm.trans ho') j hj
      exact ⟨up1 j h1, h2⟩
theorem Drawn.ready_some (d : Drawn call P num N ops xs n s0 sF S sp) {listed : Array Bool} (hsz : listed.size = ops.size) (hl : left n listed ≠ 0) : Region.ready .any ops listed ≠ [] := by
  have hex : ∃ i, i < n ∧ listed.getD i true = false := by
    obtain ⟨i, hi, h⟩ := List.countP_pos_iff.1 (Nat.pos_of_ne_zero hl)
    exact ⟨i, List.mem_range.1 hi, by simpa using h⟩
  have : ∃ i, (i < n ∧ listed.getD i true = false) ∧ ∀ j, j < i → ¬ (j < n ∧ listed.getD j true = false) := by
    obtain ⟨i, hi⟩ := hex
    induction i using Nat.strongRecOn with
    | _ i ih =>
      by_cases h : ∃ j, j < i ∧ (j < n ∧ listed.getD j true = false)
      · obtain ⟨j, h1, h2⟩ := h; exact ih j h1 h2
      · exact ⟨i, hi, fun j hj h' => h ⟨j, hj, h'⟩⟩
  obtain ⟨i, ⟨hi, hl⟩, hmin⟩ := this
  have hlt : i < ops.size := by have := d.hn; omega
  have ho : ops[i]? = some ops[i] := Array.getElem?_eq_getElem hlt
  have : i ∈ Region.ready .any ops listed := by
    refine mem_ready.2 ⟨hl, _, ho, fun e he hb => ?_⟩
    have h1 := d.low i _ hi ho e he hb
    have h2 : listed.getD e.on true = true := by
      cases h3 : listed.getD e.on true with
      | true => rfl
      | false => exact absurd ⟨by omega, h3⟩ (hmin e.on h1)
    have h4 : e.on < listed.size := by omega
    simp [h4] at h2 ⊢; exact h2
  intro h
  rw [h] at this; cases this
theorem Drawn.all (d : Drawn call P num N ops xs n s0 sF S sp) {listed : Array Bool} {t : St} (p : Part xs n S listed t) (hall : ∀ i, i < n → listed.getD i true = true) : t.mem = (S n).mem ∧ (∀ u, t.env.get u = (S n).env.get u) ∧ t.k = (S n).k := by
  refine ⟨List.ext_getElem? fun id => ?_, fun u => ?_, p.k.trans (d.pre 0 n (Nat.zero_le _) (Nat.le_refl _)).2.2.symm⟩
  · rcases Nat.lt_or_ge id (S n).mem.length with h | h
    · exact p.live id h fun j hj _ _ => hall j hj
    · rw [List.getElem?_eq_none h, List.getElem?_eq_none (by rw [p.len]; exact h)]
  · by_cases hw : ∃ (j : Nat) (y : XO), j < n ∧ xs[j]? = some y ∧ y.dst = some u
    · obtain ⟨j, y, hj, hy, hd⟩ := hw
      rw [(p.done j y u hj hy hd (hall j hj)).1]
      exact (d.get u (j + 1) n (by omega) (Nat.le_refl _) fun k z h5 h6 h7 => by
        rcases (d.one k j z y u h6 hj h7 hy hd).1 with h | h
        · omega
        · exact h).symm
    · rw [(p.not u fun j y h1 h2 h3 => absurd ⟨j, y, h1, h2, h3⟩ hw).1]
      exact (d.get u 0 n (Nat.zero_le _) (Nat.le_refl _) fun k z _ h6 h7 h8 => hw ⟨k, z, h6, h7, h8⟩).symm
theorem Drawn.any {ro : Option Nat} (d : Drawn call P num N ops xs n s0 sF S fun _ => false) (htail : n = ops.size ∨ (n < ops.size ∧ Region.sinkB .any ops n = true ∧ Region.chainB .any ops n = true)) (hseq : Region.seqB .any ops (ops.size - n) n (headArr ops.size n) = true) (hcall : CallOK num P call) {Q : Exit → Act → World → Prop} {k : Nat} {C : Cx} {m : Mem} {a0 : Act} (hN : N ≤ a0.tmps.size) (hQ : ∀ D a', Later num k C m a0 D sF a' → Q .normal a' D.w) :
    ∀ (c : Nat) (listed : Array Bool) (a : Act) (D : Cx) (t : St), left n listed = c → HeadInv .any ops n listed → Part xs n S listed t → Later num k C m a0 D t a → wpAnyIn (fz ro) 0 P .any ops Q (c + (ops.size - n)) listed a D.w := by
  intro c
  induction c with
  | zero =>
    intro listed a D t hl inv p hlat
    rw [Nat.zero_add]
    have hall : ∀ i, i < n → listed.getD i true = true := by
      intro i hi
      cases h : listed.getD i true with
      | true => rfl
      | false =>
        have := List.countP_eq_zero.1 hl i (List.mem_range.2 hi)
        simp [h] at this
    have hhead := headArr_of inv.size d.hn hall inv.tail
    have hdl : (ops.toList.drop n).length = ops.size - n := by simp
    obtain ⟨h1, h2, h3⟩ := d.all p hall
    have hSn : Later num k C m a0 D (S n) a :=
      ⟨⟨by rw [← h1]; exact hlat.rep.mem, fun u => by rw [← h2]; exact hlat.rep.env u, by rw [← h1, ← h3]; exact hlat.rep.k⟩, by rw [← h1]; exact hlat.step, by rw [← h3]; exact hlat.k, hlat.size, hlat.marks⟩
    have htr : trOps P num N ops (ops.toList.drop n) = (xs.drop n).map XO.wipe := by
      refine trOps_of _ _ (by simp [d.len]) fun i o hi => ?_
      rw [List.getElem?_drop] at hi
      obtain ⟨x, hx, h⟩ := d.tr (n + i) o rfl (by simpa using hi)
      exact ⟨x, by rw [List.getElem?_drop]; exact hx, h⟩
    have hw := list_wp (ro := ro) hcall (Q := Q) (ops.toList.drop n) (xs.drop n) htr hSn.rep (by rw [hSn.size]; exact hN) d.rest fun E a'' hl' => hQ E a'' (hSn.trans (by rw [hSn.k] at hl'; exact hl'))
    have := wpAnyIn_of_seq (md := .any) (Q' := Q) (ops.toList.drop n) n listed a D.w (fun j => by simp [List.getElem?_drop]) (by rw [hdl, hhead]; exact hseq) hw
    rwa [hdl] at this
  | succ c ih =>
    intro listed a D t hl inv p hlat
    rw [show c + 1 + (ops.size - n) = (c + (ops.size - n)) + 1 by omega]
    refine ⟨fun h => absurd h (d.ready_some inv.size (by omega)), fun i hi => ?_⟩
    obtain ⟨hun, oi, hoi, _⟩ := mem_ready.1 hi
    have hisz : i < ops.size := (Array.getElem?_eq_some_iff.1 hoi).1
    have hin : i < n := by
      rcases htail with h | ⟨h1, h2, h3⟩
      · omega
      · rcases Nat.lt_or_ge i n with h | h
        · exact h
        · obtain ⟨j, hj, h4⟩ := List.countP_pos_iff.1 (show 0 < left n listed by omega)
          exact absurd hi (tail_waits h2 h3 h1 inv _ j rfl (List.mem_range.1 hj) (by simpa using h4) i h)
    obtain ⟨x, hx, htr⟩ := d.tr i oi rfl hoi
    obtain ⟨t1, h1, hnext⟩ := d.part_step hcall p hin hi hx (fun fn l hop => by rw [(trOper_spec htr).1]; simp only [XO.wipe, hop, XOp.wipe]) hlat.rep
    unfold wpOpIn
    simp only [hoi]
    refine one_wp hcall htr hlat.rep (by rw [hlat.size]; exact hN) h1 fun E a' hl' _ => ?_
    obtain ⟨t2, F, hw, hl2, p2⟩ := hnext E a' hl'.rep
    rw [← hw]
    refine ih _ a' F t2 (by have := left_set hin hun; omega) (inv.set hi hin) p2 ?_
    rw [hlat.k] at hl'
    rw [hl'.k] at hl2
    exact (hlat.trans hl').trans hl2
theorem Drawn.owner (d : Drawn call P num N ops xs n s0 sF S sp) {id : Nat} (h0 : (S 0).mem.length ≤ id) : ∀ m, m ≤ n → id < (S m).mem.length → ∃ j, j < m ∧ (S j).mem.length ≤ id ∧ id < (S (j + 1)).mem.length := by
  intro m
  induction m with
  | zero => intro _ h; omega
  | succ m ih =>
    intro hm h
    rcases Nat.lt_or_ge id (S m).mem.length with h1 | h1
    · obtain ⟨j, h2, h3⟩ := ih (by omega) h1
      exact ⟨j, by omega, h3⟩
    · exact ⟨m, by omega, h1, h⟩
theorem Drawn.start (d : Drawn call P num N ops xs n s0 sF S sp) {C : Cx} {a : Act} (hs : SRep num C s0 a) : Part xs n S (Array.replicate ops.size false) { s0 with mem := s0.mem ++ List.replicate ((S n).mem.length - s0.mem.length) AObj.dead } := by
  have hpre := d.pre 0 n (Nat.zero_le _) (Nat.le_refl _)
  have hS0 := d.S0
  have hn := hs.mem.len
  have hfalse : ∀ j, j < n → (Array.replicate ops.size false).getD j true = false := fun j hj => by
    have hlt : j < ops.size := by have := d.hn; omega
    simp [hlt]
  have live0 : ∀ id, id < (S 0).mem.length → Live S n (Array.replicate ops.size false) id := fun id h j hj h1 _ => by have := (d.pre 0 j (by omega) (by omega)).1; omega
  have hb : (S 0).mem.length = s0.mem.length := by rw [hS0]
  refine ⟨by simp; omega, by rw [hS0], by rw [hS0]; exact hs.k, fun id hid hlv => ?_, fun id hid hno => ?_, fun i x u hi hx hd hl => ?_, fun u _ => ?_, fun id o ho j hj => ?_⟩
  · rcases Nat.lt_or_ge id (S 0).mem.length with h | h
    · rw [hpre.2.1 id h, hS0]
      exact List.getElem?_append_left (by omega)
    · obtain ⟨j, hj, h1, h2⟩ := d.owner h n (Nat.le_refl _) hid
      have := hlv j hj h1 h2
      rw [hfalse j hj] at this; cases this
  · have h : (S 0).mem.length ≤ id := Nat.le_of_not_lt fun h => hno (live0 id h)
    show (s0.mem ++ _)[id]? = _
    rw [List.getElem?_append_right (by omega), List.getElem?_replicate, if_pos (by omega)]
  · rw [hfalse i hi] at hl; cases hl
  · rw [hS0]
    exact ⟨rfl, fun id hid => by have := arep_lt (hs.env u) id hid; omega⟩
  · have hsp : s0.mem[id]? = some o ∨ o = .dead := by
      rcases Nat.lt_or_ge id s0.mem.length with h | h
      · left; rw [← ho]; exact (List.getElem?_append_left h).symm
      · right
        have ho' : (s0.mem ++ List.replicate ((S n).mem.length - s0.mem.length) AObj.dead)[id]? = some o := ho
        rw [List.getElem?_append_right h] at ho'
        exact List.eq_of_mem_replicate (List.mem_of_getElem? ho')
    rcases hsp with h | rfl
    · have hjl := orep_lt (hs.mem.obj id o h) j hj
      exact ⟨live0 j (by omega), fun i hi _ => by have := (d.pre 0 i (by omega) hi).1; omega⟩
    · simp [AObj.refs] at hj
end
theorem drawn_of {call : Calls'} {N : Nat} {ops : Array Oper} {xs : List XO} {n : Nat} {s0 sF : St} (htr : trOps P num N ops ops.toList = xs.map XO.wipe) (hlen : xs.length = ops.size) (h1 : (xs.take n).all (fun x => calmOp x.op || makeOp x.op) = true)
    (h2 : ((List.range n).all fun i => (List.range n).all fun j => match xs[i]?, xs[j]? with
    | some x, some y => match y.dst with
      | none => true
      | some d => (i == j || x.dst != some d) && (!x.reads.contains d || (decide (j < i) && Region.waitsFor .any ops i j))
    | _, _ => false) = true)
    (h3 : ((List.range n).all fun i => match ops[i]? with
    | some o => o.after.all fun e => !Region.binds .any e || decide (e.on < i)
    | none => false) = true) (hn : n ≤ ops.size) (h : exOps call s0 xs = some sF) : ∃ S, Drawn call P num N ops xs n s0 sF S fun _ => false := by
  have hS : ∀ i, ∃ t, exOps call s0 (xs.take i) = some t ∧ exOps call t (xs.drop i) = some sF := exOps_split xs s0 sF h
  obtain ⟨S, hS⟩ : ∃ S : Nat → St, ∀ i, exOps call s0 (xs.take i) = some (S i) ∧ exOps call (S i) (xs.drop i) = some sF := ⟨fun i => Classical.choose (hS i), fun i => Classical.choose_spec (hS i)⟩
  have go : ∀ (i : Nat) x, xs[i]? = some x → exOne call (S i) x = some (S (i + 1)) := by
    intro i x hx
    have e1 := (hS i).1
    have e2 := (hS (i + 1)).1
    have : xs.take (i + 1) = xs.take i ++ [x] := by
      rw [List.take_add_one, hx]; rfl
    rw [this] at e2
    exact exOps_snoc _ x s0 _ _ e1 e2
  refine ⟨S, hlen, hn, fun i o _ ho => trOps_all ops.toList xs htr h i o (by simpa using ho), ?_, ?_, ?_, ?_, go, ?_, fun i x _ hx => go i x hx, ?_⟩
  · intro i x hi hx
    refine List.all_eq_true.1 h1 x (List.mem_of_getElem? (i := i) ?_)
    rw [List.getElem?_take, if_pos hi]; exact hx
  · intro i j x y d hi hj hx hy hyd
    have := List.all_eq_true.1 (List.all_eq_true.1 h2 i (List.mem_range.2 hi)) j (List.mem_range.2 hj)
    simp only [hx, hy, hyd, Bool.and_eq_true, Bool.or_eq_true, beq_iff_eq, bne_iff_ne, Bool.not_eq_true', List.contains_eq_mem, decide_eq_false_iff_not, decide_eq_true_eq] at this
    refine ⟨this.1, fun hr => ?_⟩
    rcases this.2 with h | h
    · exact absurd hr h
    · exact h
  · intro i o hi ho e he hb
    have := List.all_eq_true.1 h3 i (List.mem_range.2 hi)
    simp only [ho] at this
    have := Array.all_eq_true_iff_forall_mem.1 this e he
    simpa [hb] using this
  · have := (hS 0).1
    simp [exOps] at this
    exact this.symm
  · have := (hS xs.length).2
    simp [exOps] at this
    exact this
  · exact (hS n).2
def Cx.draw (C : Cx) : Cx := { C with w := { C.w with drawn := C.w.drawn + 1 } }
theorem draw_tr (C : Cx) : Tr some C C.draw := ⟨fun _ h => h, fun _ _ => rfl, fun id j hid hj => by cases hj; exact ⟨hid, rfl, fun _ _ h => h⟩⟩
theorem draw_rep {C : Cx} {m : Mem} (h : MRep num C m) : MRep num C.draw m :=
  ⟨h.len, fun id o ho => orep_mono (draw_tr C) rfl (fun _ hx => hx) (h.obj id o ho), h.inj, h.imm, h.bd, num.up h.glo (draw_tr C).imm (draw_tr C).keep⟩
theorem draw_later {C : Cx} {s : St} {a : Act} (hs : SRep num C s a) : Later num s.k C s.mem a C.draw s a := by
  refine ⟨⟨draw_rep hs.mem, hs.env.mono (draw_tr C), hs.k⟩, ⟨draw_rep hs.mem, rfl, rfl, rfl, Nat.le_refl _, fun _ _ _ => rfl, fun _ _ _ h => h, fun _ h => h, fun _ h => .inl h, fun _ h => .inr h, fun i _ o' ho hm => ⟨o', ho, hm, rfl⟩, hs.k⟩, rfl, rfl, fun _ _ h => h⟩
theorem replicate_left (n m : Nat) (h : n ≤ m) : left n (Array.replicate m false) = n := by
  unfold left
  rw [List.countP_eq_length.2]
  · simp
  · intro i hi
    have := List.mem_range.1 hi
    have h' : i < m := by omega
    simp [h']
end
end Go.EX


set_option linter.unusedVariables false
set_option linter.unusedSimpArgs false
namespace Go.EX
theorem append_env {s : St} {sz bytes : Nat} {a x r : AV} {s' : St} (h : exAppend s sz bytes a x = some (r, s')) :
    ∃ f : Nat → Option Nat, s'.env = s.env.ren f ∧ s'.k = s.k ∧ ∀ e : Env, exAppend { s with env := e } sz bytes a x = some (r, { s' with env := e.ren f }) := by
  unfold exAppend at h
  cases hel : elems s.mem sz x with
  | none => simp [hel] at h
  | some nn =>
    obtain ⟨n, news⟩ := nn
    simp only [hel] at h
    split at h
    · split at h
      · cases h
        refine ⟨some, (env_ren_some _).symm, rfl, fun e => ?_⟩
        simp [exAppend, hel, env_ren_some, *]
      · split at h
        · simp only [fresh, Option.some.injEq, Prod.mk.injEq] at h
          obtain ⟨rfl, rfl⟩ := h
          refine ⟨some, (env_ren_some _).symm, rfl, fun e => ?_⟩
          simp [exAppend, hel, env_ren_some, fresh, *]
        · cases h
    · split at h
      · cases h
        refine ⟨some, (env_ren_some _).symm, rfl, fun e => ?_⟩
        simp [exAppend, hel, env_ren_some, *]
      · split at h
        · cases h
        · split at h
          · split at h
            · simp only [fresh, Option.some.injEq, Prod.mk.injEq] at h
              obtain ⟨rfl, rfl⟩ := h
              refine ⟨some, (env_ren_some _).symm, rfl, fun e => ?_⟩
              simp [exAppend, hel, env_ren_some, fresh, *]
            · cases h
          · cases h
    · split at h
      · split at h
        · split at h
          · split at h
            · simp only [Option.some.injEq, Prod.mk.injEq] at h
              obtain ⟨rfl, rfl⟩ := h
              refine ⟨some, (env_ren_some _).symm, rfl, fun e => ?_⟩
              simp [exAppend, hel, env_ren_some, fresh, *]
            · cases h
          · split at h
            · split at h
              · simp only [fresh, Option.some.injEq, Prod.mk.injEq] at h
                obtain ⟨rfl, rfl⟩ := h
                refine ⟨some, (env_ren_some _).symm, rfl, fun e => ?_⟩
                simp [exAppend, hel, env_ren_some, fresh, *]
              · cases h
            · cases h
        · cases h
      · cases h
    · split at h
      · split at h
        · split at h
          · split at h
            · simp only [Option.some.injEq, Prod.mk.injEq] at h
              obtain ⟨rfl, rfl⟩ := h
              rw [scrub_eq]
              refine ⟨hide _, rfl, rfl, fun e => ?_⟩
              simp [exAppend, hel, scrub_eq, *]
            · cases h
          · cases h
        · cases h
      · cases h
    · cases h
theorem appendR_env {s : St} {sz bytes : Nat} {a x r : AV} {s' : St} (h : exAppendR s sz bytes a x = some (r, s')) :
    ∃ f : Nat → Option Nat, s'.env = s.env.ren f ∧ s'.k = s.k ∧ ∀ e : Env, exAppendR { s with env := e } sz bytes a x = some (r, { s' with env := e.ren f }) := by
  refine ⟨some, ?_⟩
  unfold exAppendR at h
  cases hel : elemsR s.mem sz x with
  | none => simp [hel] at h
  | some nn =>
    obtain ⟨n, news⟩ := nn
    simp only [hel] at h
    split at h
    · cases h
    · split at h
      · split at h
        · simp only [fresh, Option.some.injEq, Prod.mk.injEq] at h
          obtain ⟨rfl, rfl⟩ := h
          exact ⟨(env_ren_some _).symm, rfl, fun e => by simp [exAppendR, hel, env_ren_some, fresh, *]⟩
        · cases h
      · split at h
        · rename_i hsz
          subst hsz
          split at h
          · split at h
            · simp only [Option.some.injEq, Prod.mk.injEq] at h
              obtain ⟨rfl, rfl⟩ := h
              exact ⟨(env_ren_some _).symm, rfl, fun e => by simp [exAppendR, hel, env_ren_some, *]⟩
            · cases h
          · cases h
        · cases h
      · split at h
        · rename_i hsz
          obtain ⟨rfl, hroom⟩ := hsz
          split at h
          · split at h
            · simp only [Option.some.injEq, Prod.mk.injEq] at h
              obtain ⟨rfl, rfl⟩ := h
              exact ⟨(env_ren_some _).symm, rfl, fun e => by simp [exAppendR, hel, env_ren_some, *]⟩
            · cases h
          · cases h
        · rename_i hno
          split at h
          · rename_i hsz
            subst hsz
            have hno2 : ¬ _ := fun q => hno ⟨rfl, q⟩
            split at h
            · split at h
              · simp only [fresh, Option.some.injEq, Prod.mk.injEq] at h
                obtain ⟨rfl, rfl⟩ := h
                exact ⟨(env_ren_some _).symm, rfl, fun e => by simp [exAppendR, hel, env_ren_some, fresh, *]⟩
              · cases h
            · cases h
          · cases h
      · cases h
theorem appendX_env {s : St} {sz bytes : Nat} {a x r : AV} {s' : St} (h : exAppendX s sz bytes a x = some (r, s')) :
    ∃ f : Nat → Option Nat, s'.env = s.env.ren f ∧ s'.k = s.k ∧ ∀ e : Env, exAppendX { s with env := e } sz bytes a x = some (r, { s' with env := e.ren f }) := by
  unfold exAppendX at h
  split at h
  · rename_i q hq
    cases h
    obtain ⟨f, h1, h2, h3⟩ := append_env hq
    exact ⟨f, h1, h2, fun e => by simp only [exAppendX, h3 e]⟩
  · rename_i hq
    obtain ⟨f, h1, h2, h3⟩ := appendR_env h
    refine ⟨f, h1, h2, fun e => ?_⟩
    have hn : exAppend { s with env := e } sz bytes a x = none := by
      cases hc : exAppend { s with env := e } sz bytes a x with
      | none => rfl
      | some q =>
        obtain ⟨q1, q2⟩ := q
        obtain ⟨_, _, _, h4⟩ := append_env hc
        have := h4 s.env
        rw [show ({ ({ s with env := e } : St) with env := s.env } : St) = s from rfl, hq] at this
        cases this
    simp only [exAppendX, hn, h3 e]
theorem appendK_env {s : St} {sz bytes : Nat} {a x r : AV} {s' : St} (h : exAppendK s sz bytes a x = some (r, s')) :
    ∃ f : Nat → Option Nat, s'.env = s.env.ren f ∧ s'.k = s.k ∧ ∀ e : Env, exAppendK { s with env := e } sz bytes a x = some (r, { s' with env := e.ren f }) := by
  unfold exAppendK at h
  split at h
  · refine ⟨some, ?_⟩
    split at h
    · split at h
      · cases h
      · split at h
        · split at h
          · simp only [Option.some.injEq, Prod.mk.injEq] at h
            obtain ⟨rfl, rfl⟩ := h
            exact ⟨(env_ren_some _).symm, rfl, fun e => by simp [exAppendK, env_ren_some, *]⟩
          · cases h
        · split at h
          · simp only [Option.some.injEq, Prod.mk.injEq] at h
            obtain ⟨rfl, rfl⟩ := h
            exact ⟨(env_ren_some _).symm, rfl, fun e => by simp [exAppendK, env_ren_some, *]⟩
          · cases h
        · cases h
    · cases h
  · rename_i hno
    obtain ⟨f, h1, h2, h3⟩ := append_env h
    refine ⟨f, h1, h2, fun e => ?_⟩
    unfold exAppendK
    split
    · exact absurd rfl (hno _ _ _)
    · exact h3 e
theorem appendS_env {s : St} {a x r : AV} {s' : St} (h : exAppendS s a x = some (r, s')) :
    ∃ f : Nat → Option Nat, s'.env = s.env.ren f ∧ s'.k = s.k ∧ ∀ e : Env, exAppendS { s with env := e } a x = some (r, { s' with env := e.ren f }) := by
  refine ⟨some, ?_⟩
  unfold exAppendS at h
  split at h
  · cases h
  · split at h
    · split at h
      · cases h
        exact ⟨(env_ren_some _).symm, rfl, fun e => by simp [exAppendS, env_ren_some, *]⟩
      · split at h
        · simp only [fresh, Option.some.injEq, Prod.mk.injEq] at h
          obtain ⟨rfl, rfl⟩ := h
          exact ⟨(env_ren_some _).symm, rfl, fun e => by simp [exAppendS, env_ren_some, fresh, *]⟩
        · cases h
    · split at h
      · split at h
        · simp only [Option.some.injEq, Prod.mk.injEq] at h
          obtain ⟨rfl, rfl⟩ := h
          exact ⟨(env_ren_some _).symm, rfl, fun e => by simp [exAppendS, env_ren_some, *]⟩
        · cases h
      · cases h
    · cases h
theorem share_env {call : Calls'} {s : St} {fn : Nat} {args : List AV} {r : AV} {s' : St} (h : exShare call s fn args = some (r, s')) :
    ∃ f : Nat → Option Nat, s'.env = s.env.ren f ∧ s'.k = s.k ∧ ∀ e : Env, exShare call { s with env := e } fn args = some (r, { s' with env := e.ren f }) := by
  unfold exShare at h
  dsimp only at h
  split at h
  · cases h
  · rename_i hok
    split at h
    · cases h
    · rename_i rv mc hc
      simp only [Option.some.injEq, Prod.mk.injEq] at h
      obtain ⟨rfl, rfl⟩ := h
      refine ⟨_, rfl, rfl, fun e => ?_⟩
      unfold exShare
      dsimp only
      rw [if_neg hok]
      simp only [hc]
      rfl
theorem st_eq {s t : St} (hm : t.mem = s.mem) (hk : t.k = s.k) : t = { s with env := t.env } := by cases t; cases s; cases hm; cases hk; rfl
theorem tail_congr {call : Calls'} {x : XOp} (hc : tailOp x = true) {s t : St} (hm : t.mem = s.mem) (hk : t.k = s.k) (he : ∀ n ∈ x.takes, t.env.get n = s.env.get n) {r : AV} {s' : St} (h : exOp call s x = some (r, s')) :
    ∃ f : Nat → Option Nat, s'.env = s.env.ren f ∧ s'.k = s.k ∧ exOp call t x = some (r, { s' with env := t.env.ren f }) := by
  have calm : calmOp x = true → (∀ n ∈ x.reads, t.env.get n = s.env.get n) → ∃ f : Nat → Option Nat, s'.env = s.env.ren f ∧ s'.k = s.k ∧ exOp call t x = some (r, { s' with env := t.env.ren f }) := by
    intro hcalm hr
    obtain ⟨rfl, h2, _⟩ := calm_congr (K := fun _ => True) hcalm (t := t) ⟨fun _ _ => by rw [hm], fun _ _ _ _ _ _ => trivial⟩ hr (fun _ _ _ _ => trivial) h
    refine ⟨some, (env_ren_some _).symm, rfl, ?_⟩
    rw [h2, env_ren_some, ← st_eq hm hk]
  have e1 : ∀ y, (∀ n ∈ srcTmp y, n ∈ x.takes) → t.env.ev y = s.env.ev y := fun y hy => ev_congr fun n hn => he n (hy n hn)
  unfold tailOp at hc
  split at hc
  · rename_i n a y
    have ha := e1 a (by simp [XOp.takes]; intros; simp [*])
    have hy := e1 y (by simp [XOp.takes]; intros; simp [*])
    refine ⟨some, ?_⟩
    simp only [exOp, ha, hy, hm] at h ⊢
    clear calm e1
    split at h
    · split at h
      · simp only [Option.map_eq_some_iff, Prod.mk.injEq] at h
        obtain ⟨m, hm', rfl, rfl⟩ := h
        refine ⟨(env_ren_some _).symm, rfl, ?_⟩
        simp only [*, if_true, Option.map_some, env_ren_some]
      · cases h
    · cases h
  · rename_i n b a y
    have ha := e1 a (by simp [XOp.takes]; intros; simp [*])
    have hy := e1 y (by simp [XOp.takes]; intros; simp [*])
    simp only [exOp, ha, hy] at h ⊢
    obtain ⟨f, h1, h2, h3⟩ := appendX_env h
    exact ⟨f, h1, h2, by rw [st_eq hm hk]; exact h3 t.env⟩
  · rename_i n b a y
    have ha := e1 a (by simp [XOp.takes]; intros; simp [*])
    have hy := e1 y (by simp [XOp.takes]; intros; simp [*])
    simp only [exOp, ha, hy] at h ⊢
    obtain ⟨f, h1, h2, h3⟩ := appendK_env h
    exact ⟨f, h1, h2, by rw [st_eq hm hk]; exact h3 t.env⟩
  · rename_i a y
    have ha := e1 a (by simp [XOp.takes]; intros; simp [*])
    have hy := e1 y (by simp [XOp.takes]; intros; simp [*])
    simp only [exOp, ha, hy] at h ⊢
    obtain ⟨f, h1, h2, h3⟩ := appendS_env h
    exact ⟨f, h1, h2, by rw [st_eq hm hk]; exact h3 t.env⟩
  · rename_i g l
    have hg := e1 g (by simp [XOp.takes]; intros; simp [*])
    have hl : l.map t.env.ev = l.map s.env.ev := evL_congr fun n hn => he n (by simp only [XOp.takes]; exact List.mem_append.2 (.inr hn))
    simp only [exOp, hg, hl] at h ⊢
    clear calm e1
    split at h
    · obtain ⟨f, h1, h2, h3⟩ := share_env h
      refine ⟨f, h1, h2, ?_⟩
      have h4 := h3 t.env
      rw [← st_eq hm hk] at h4
      simp only [*]
    · obtain ⟨f, h1, h2, h3⟩ := share_env h
      refine ⟨f, h1, h2, ?_⟩
      have h4 := h3 t.env
      rw [← st_eq hm hk] at h4
      simp only [*]
    · cases h
  · rename_i kd m k v
    have h1 := e1 m (by simp [XOp.takes]; intros; simp [*])
    have h2 := e1 k (by simp [XOp.takes]; intros; simp [*])
    have h3 := e1 v (by simp [XOp.takes]; intros; simp [*])
    refine ⟨some, ?_⟩
    simp only [exOp, h1, h2, h3, hm] at h ⊢
    clear calm e1
    split at h
    · split at h
      · split at h
        · split at h
          · cases h
            refine ⟨(env_ren_some _).symm, rfl, ?_⟩
            simp only [*, if_true, env_ren_some]
          · cases h
            refine ⟨(env_ren_some _).symm, rfl, ?_⟩
            simp only [*, if_true, env_ren_some]
          · cases h
        · cases h
      · cases h
    · cases h
  · rename_i fn l
    have hl : l.map t.env.ev = l.map s.env.ev := evL_congr fun n hn => he n (by simp only [XOp.takes, XOp.reads]; exact hn)
    simp only [exOp, hl] at h ⊢
    obtain ⟨f, h1, h2, h3⟩ := share_env h
    exact ⟨f, h1, h2, by rw [st_eq hm hk]; exact h3 t.env⟩
  · refine calm hc fun n hn => he n ?_
    unfold XOp.takes
    split <;> first | exact hn | (cases hc; done) | (rename_i hx _; simp [XOp.reads] at hn)
theorem ren_id1 (v : AV) : v.ren some = v := ren_some v
theorem tail_one {call : Calls'} {x : XO} (hc : tailOp x.op = true) {s t : St} (hm : t.mem = s.mem) (hk : t.k = s.k) (he : ∀ n ∈ x.takes, t.env.get n = s.env.get n) {s' : St} (h : exOne call s x = some s') :
    ∃ (f : Nat → Option Nat) (v : AV) (t' : St), exOne call t x = some t' ∧ t'.mem = s'.mem ∧ t'.k = s'.k ∧ s'.k = s.k ∧ (∀ u, s'.env.get u = if x.dst = some u then v else (s.env.get u).ren f) ∧ ∀ u, t'.env.get u = if x.dst = some u then v else (t.env.get u).ren f := by
  have r1 : ∀ n ∈ x.op.takes, n ∈ x.takes := fun n hn => List.mem_append.2 (.inl hn)
  have r3 : ∀ u b, x.guard = some (u, b) → u ∈ x.takes := fun u b hg => List.mem_append.2 (.inr (by simp [hg]))
  rcases exOne_bind h with ⟨v, s1, hx, rfl, hg⟩ | ⟨rfl, u, b, hg, hcc⟩
  · obtain ⟨f, h1, h2, h3⟩ := tail_congr hc hm hk (fun n hn => he n (r1 n hn)) hx
    have hbm : ∀ (u : St), (u.bind x.dst v).mem = u.mem := fun u => by cases x.dst <;> rfl
    have hbk : ∀ (u : St), (u.bind x.dst v).k = u.k := fun u => by cases x.dst <;> rfl
    refine ⟨f, v, ({ s1 with env := t.env.ren f } : St).bind x.dst v, ?_, by rw [hbm, hbm], by rw [hbk, hbk], by rw [hbk, h2], fun u => by rw [bind_get, h1, env_ren_get], fun u => by rw [bind_get, env_ren_get]⟩
    unfold exOne
    rcases hg with hg | ⟨u, b, hg, hcc⟩
    · simp only [hg, h3, Option.map_some]; cases x.dst <;> rfl
    · have : t.env.get u = .imm (.val (.bool b)) := by rw [he u (r3 u b hg)]; exact hcc
      simp only [hg, this, h3, Option.map_some, if_true]; cases x.dst <;> rfl
  · have hbm : ∀ (u : St), (u.bind x.dst (.tup [])).mem = u.mem := fun u => by cases x.dst <;> rfl
    have hbk : ∀ (u : St), (u.bind x.dst (.tup [])).k = u.k := fun u => by cases x.dst <;> rfl
    refine ⟨some, .tup [], t.bind x.dst (.tup []), ?_, by rw [hbm, hbm, hm], by rw [hbk, hbk, hk], by rw [hbk], fun u => by rw [bind_get, ren_id1], fun u => by rw [bind_get, ren_id1]⟩
    unfold exOne
    rcases hcc with ⟨c, hcc, hne⟩ | hcc
    · have : t.env.get u = .imm (.val (.bool c)) := by rw [he u (r3 u b hg)]; exact hcc
      simp only [hg, this, hne, if_false]
      cases x.dst <;> rfl
    · have : t.env.get u = .tup [] := by rw [he u (r3 u b hg)]; exact hcc
      simp only [hg, this]
      cases x.dst <;> rfl
section
variable {num : Names} {P : Program}
variable {call : Calls'} {N : Nat} {ops : Array Oper} {xs : List XO} {n : Nat} {s0 sF : St} {S : Nat → St}
theorem late_spec {i : Nat} (h : lateB ops xs n i = true) : ∃ (x : XO) (y d : Nat), xs[i]? = some x ∧ x.op = .mv (.t y) ∧ x.dst = some d ∧ x.guard = none ∧ y ≠ d ∧
    ∀ (j : Nat) z, n ≤ j → xs[j]? = some z → z.dst ≠ some d ∧ z.dst ≠ some y ∧ (d ∈ z.takes → Region.waitsFor .any ops j i = true) := by
  unfold lateB at h
  split at h
  · rename_i x hx
    split at h
    · rename_i y d hop hd hg
      simp only [Bool.and_eq_true, bne_iff_ne, ne_eq, List.all_eq_true, List.mem_range, Bool.or_eq_true, decide_eq_true_eq] at h
      obtain ⟨hyd, hall⟩ := h
      refine ⟨x, y, d, hx, hop, hd, hg, hyd, fun j z hj hz => ?_⟩
      have hjl : j < xs.length := (List.getElem?_eq_some_iff.1 hz).1
      rcases hall j hjl with h | h
      · omega
      · rw [hz] at h
        simp only [Bool.and_eq_true, bne_iff_ne, ne_eq, Bool.or_eq_true, Bool.not_eq_true', List.contains_eq_mem, decide_eq_false_iff_not] at h
        obtain ⟨h1, h2, h3⟩ := h
        refine ⟨h1, h2, fun hd => ?_⟩
        rcases h3 with h3 | h3
        · exact absurd hd h3
        · exact h3
    · cases h
  · cases h
structure Floats (ops : Array Oper) (xs : List XO) (n : Nat) : Prop where
  strong : ∀ (j : Nat) z, n ≤ j → xs[j]? = some z → tailOp z.op = true
  sink : ∀ i, i < n → lateB ops xs n i = false → ∃ j, j ≤ n ∧ i < j ∧ Region.waitsFor .any ops j i = true ∧ (j = n ∨ lateB ops xs n j = false)
  lt : n < ops.size
  chain : Region.chainB .any ops n = true
  low : ∀ (i : Nat) o, ops[i]? = some o → ∀ e ∈ o.after, Region.binds .any e = true → e.on < i
theorem chain_spec (h : Region.chainB .any ops n = true) {t : Nat} (hn : n < t) (ht : t < ops.size) : Region.waitsFor .any ops t (t - 1) = true := by
  have := List.all_eq_true.1 h t (List.mem_range.2 ht)
  simp only [Bool.or_eq_true, decide_eq_true_eq] at this
  rcases this with h | h
  · omega
  · exact h
theorem Floats.waits (fl : Floats ops xs n) {listed : Array Bool} (inv : HeadInv .any ops n listed) : ∀ (d i : Nat), n - i = d → i < n → lateB ops xs n i = false → listed.getD i true = false → ∀ t, n ≤ t → t ∉ Region.ready .any ops listed := by
  intro d
  induction d using Nat.strongRecOn with
  | _ d ih =>
    intro i hd hi hlate hun t ht hr
    have htlt : t < ops.size := by
      obtain ⟨_, ot, hot, _⟩ := mem_ready.1 hr
      exact (Array.getElem?_eq_some_iff.1 hot).1
    by_cases htn : t = n
    · subst htn
      obtain ⟨j, hj1, hj2, hw, hj3⟩ := fl.sink i hi hlate
      by_cases hjt : j = t
      · subst hjt
        have := ready_waits hr hw
        rw [getD_both hun] at this; cases this
      · have hjl : lateB ops xs t j = false := by rcases hj3 with h | h; exact absurd h hjt; exact h
        cases hl : listed.getD j false with
        | true =>
          obtain ⟨oj, hoj, e, he, hb, hon⟩ := Region.waitsFor_spec hw
          have h2 := inv.closed j oj hoj hl e he hb
          rw [hon, getD_both hun] at h2
          cases h2
        | false =>
          have hjs : j < listed.size := by rw [inv.size]; omega
          exact ih (t - j) (by omega) j rfl (by omega) hjl (getD_in hjs hl) t (Nat.le_refl _) hr
    · have := ready_waits hr (chain_spec fl.chain (by omega) htlt)
      rw [getD_both (inv.tail (t - 1) (by omega) (by omega))] at this
      cases this
theorem Floats.ready_some (fl : Floats ops xs n) {listed : Array Bool} (hsz : listed.size = ops.size) (hl : left ops.size listed ≠ 0) : Region.ready .any ops listed ≠ [] := by
  have hex : ∃ i, i < ops.size ∧ listed.getD i true = false := by
    obtain ⟨i, hi, h⟩ := List.countP_pos_iff.1 (Nat.pos_of_ne_zero hl)
    exact ⟨i, List.mem_range.1 hi, by simpa using h⟩
  have : ∃ i, (i < ops.size ∧ listed.getD i true = false) ∧ ∀ j, j < i → ¬ (j < ops.size ∧ listed.getD j true = false) := by
    obtain ⟨i, hi⟩ := hex
    induction i using Nat.strongRecOn with
    | _ i ih =>
      by_cases h : ∃ j, j < i ∧ (j < ops.size ∧ listed.getD j true = false)
      · obtain ⟨j, h1, h2⟩ := h; exact ih j h1 h2
      · exact ⟨i, hi, fun j hj h' => h ⟨j, hj, h'⟩⟩
  obtain ⟨i, ⟨hi, hl⟩, hmin⟩ := this
  have ho : ops[i]? = some ops[i] := Array.getElem?_eq_getElem hi
  have : i ∈ Region.ready .any ops listed := by
    refine mem_ready.2 ⟨hl, _, ho, fun e he hb => ?_⟩
    have h1 := fl.low i _ ho e he hb
    have h2 : listed.getD e.on true = true := by
      cases h3 : listed.getD e.on true with
      | true => rfl
      | false => exact absurd ⟨by omega, h3⟩ (hmin e.on h1)
    have h4 : e.on < listed.size := by omega
    simp [h4] at h2 ⊢; exact h2
  intro h
  rw [h] at this; cases this
structure Behind (ops : Array Oper) (xs : List XO) (n : Nat) (S : Nat → St) (listed : Array Bool) (t : St) (k : Nat) : Prop where
  lo : n ≤ k
  hi : k ≤ ops.size
  size : listed.size = ops.size
  head : ∀ i, i < n → lateB ops xs n i = false → listed.getD i true = true
  done : ∀ i, n ≤ i → i < k → listed.getD i true = true
  todo : ∀ i, k ≤ i → i < ops.size → listed.getD i true = false
  mem : t.mem = (S k).mem
  kk : t.k = (S k).k
  env : ∀ u, (∀ (i : Nat) x, i < n → lateB ops xs n i = true → xs[i]? = some x → x.dst = some u → listed.getD i true = true) → t.env.get u = (S k).env.get u
theorem Drawn.moved (d : Drawn call P num N ops xs n s0 sF S fun _ => false) (fl : Floats ops xs n) {i : Nat} (hi : i < n) {x : XO} {y dd : Nat} (hx : xs[i]? = some x) (hop : x.op = .mv (.t y)) (hd : x.dst = some dd) (hg : x.guard = none) (hyd : y ≠ dd)
    (hno : ∀ (j : Nat) z, n ≤ j → xs[j]? = some z → z.dst ≠ some dd ∧ z.dst ≠ some y) : ∀ k, n ≤ k → k ≤ ops.size → (S k).env.get dd = (S k).env.get y := by
  intro k
  induction k with
  | zero => intro h1 _; omega
  | succ k ih =>
    intro h1 h2
    rcases Nat.lt_or_ge k n with hk | hk
    · have hkn : k + 1 = n := by omega
      rw [hkn]
      have h3 : (S (i + 1)).env.get dd = (S i).env.get y ∧ (S (i + 1)).env.get y = (S i).env.get y := by
        have := d.step i x hi hx
        simp only [exOne, hg, hop, exOp, Option.map_some, hd, Option.some.injEq] at this
        rw [← this]
        simp [Env.get, Env.ev, hyd, Ne.symm hyd]
      have h4 : (S n).env.get dd = (S (i + 1)).env.get dd := d.get dd (i + 1) n (by omega) (Nat.le_refl _) fun j z h5 h6 h7 => by
        rcases (d.one j i z x dd h6 hi h7 hx hd).1 with h | h
        · omega
        · exact h
      have h5 : (S n).env.get y = (S (i + 1)).env.get y := d.get y (i + 1) n (by omega) (Nat.le_refl _) fun j z h5 h6 h7 hz => by
        have := (d.one i j x z y hi h6 hx h7 hz).2 (by simp [XO.reads, hop, XOp.reads, srcTmp])
        omega
      rw [h4, h5, h3.1, h3.2]
    · have ih' := ih hk (by omega)
      have hkl : k < xs.length := by rw [d.len]; omega
      have hz : xs[k]? = some xs[k] := List.getElem?_eq_getElem hkl
      obtain ⟨f, v, t', _, _, _, _, h6, _⟩ := tail_one (fl.strong k _ hk hz) rfl rfl (fun _ _ => rfl) (d.go k _ hz)
      obtain ⟨h7, h8⟩ := hno k _ hk hz
      rw [h6, h6, if_neg h7, if_neg h8, ih']
theorem Drawn.behind {ro : Option Nat} (d : Drawn call P num N ops xs n s0 sF S fun _ => false) (fl : Floats ops xs n) (hcall : CallOK num P call) {Q : Exit → Act → World → Prop} {k0 : Nat} {C : Cx} {m : Mem} {a0 : Act} (hN : N ≤ a0.tmps.size) (hQ : ∀ D a', Later num k0 C m a0 D sF a' → Q .normal a' D.w) :
    ∀ (c : Nat) (listed : Array Bool) (a : Act) (D : Cx) (t : St) (k : Nat), left ops.size listed = c → Behind ops xs n S listed t k → Later num k0 C m a0 D t a → wpAnyIn (fz ro) 0 P .any ops Q c listed a D.w := by
  intro c
  induction c with
  | zero =>
    intro listed a D t k hl b hlat
    have hall : ∀ i, i < ops.size → listed.getD i true = true := by
      intro i hi
      cases h : listed.getD i true with
      | true => rfl
      | false =>
        have := List.countP_eq_zero.1 hl i (List.mem_range.2 hi)
        simp [h] at this
    have hk : k = ops.size := by
      rcases Nat.lt_or_ge k ops.size with h | h
      · have := b.todo k (Nat.le_refl _) h
        rw [hall k h] at this; cases this
      · have := b.hi; omega
    subst hk
    refine ⟨?_, ?_⟩
    · rw [List.eq_nil_iff_forall_not_mem]
      intro i hi
      obtain ⟨h1, o, ho, _⟩ := mem_ready.1 hi
      rw [hall i (Array.getElem?_eq_some_iff.1 ho).1] at h1; cases h1
    · have hfin : S ops.size = sF := by rw [← d.len]; exact d.fin
      have henv : ∀ u, t.env.get u = sF.env.get u := fun u => by rw [← hfin]; exact b.env u fun i x hi _ _ _ => hall i (by have := d.hn; omega)
      have hmem := b.mem
      have hkk := b.kk
      rw [hfin] at hmem hkk
      exact hQ D a ⟨⟨by rw [← hmem]; exact hlat.rep.mem, fun u => by rw [← henv]; exact hlat.rep.env u, by rw [← hmem, ← hkk]; exact hlat.rep.k⟩, by rw [← hmem]; exact hlat.step, by rw [← hkk]; exact hlat.k, hlat.size, hlat.marks⟩
  | succ c ih =>
    intro listed a D t k hl b hlat
    refine ⟨fun h => absurd h (fl.ready_some b.size (by omega)), fun i hi => ?_⟩
    obtain ⟨hun, oi, hoi, _⟩ := mem_ready.1 hi
    have hisz : i < ops.size := (Array.getElem?_eq_some_iff.1 hoi).1
    obtain ⟨x, hx, htr⟩ := d.tr i oi rfl hoi
    have hleft : left ops.size (listed.setIfInBounds i true) = c := by have := left_set hisz hun; omega
    rcases Nat.lt_or_ge i n with hin | hin
    ·
      have hlate : lateB ops xs n i = true := by
        cases h : lateB ops xs n i with
        | true => rfl
        | false => rw [b.head i hin h] at hun; cases hun
      obtain ⟨x', y, dd, hx', hop, hd, hg, hyd, hno⟩ := late_spec hlate
      rw [hx] at hx'
      cases hx'
      have hy : t.env.get y = (S k).env.get y := b.env y fun j z hj hlj hz hzd => by
        have := (d.one i j x z y hin hj hx hz hzd).2 (by simp [XO.reads, hop, XOp.reads, srcTmp])
        have h2 := ready_waits hi this.2
        exact getD_up h2
      have h1 : exOne call t x = some (t.bind (some dd) (t.env.get y)) := by
        simp only [exOne, hg, hop, exOp, Option.map_some, hd]
        rfl
      unfold wpOpIn
      simp only [hoi]
      refine one_wp hcall htr hlat.rep (by rw [hlat.size]; exact hN) h1 fun E a' hl' _ => ?_
      rw [hlat.k] at hl'
      refine ih _ a' E _ k hleft ?_ (hlat.trans hl')
      refine ⟨b.lo, b.hi, by simp [b.size], fun j hj hjl => ?_, fun j h2 h3 => ?_, fun j h2 h3 => ?_, b.mem, b.kk, fun u hu => ?_⟩
      · have h4 := b.head j hj hjl
        by_cases hij : i = j
        · subst hij; rw [hlate] at hjl; cases hjl
        · rw [getD_set_ne true hij]; exact h4
      · rw [getD_set_ne true (by omega)]; exact b.done j h2 h3
      · rw [getD_set_ne true (by have := b.lo; omega)]; exact b.todo j h2 h3
      · rw [bind_get]
        by_cases hud : u = dd
        · subst hud
          rw [if_pos rfl, hy]
          exact (d.moved fl hin hx hop hd hg hyd (fun j z hj hz => ⟨(hno j z hj hz).1, (hno j z hj hz).2.1⟩) k b.lo b.hi).symm
        · rw [if_neg (by intro h; cases h; exact hud rfl)]
          refine b.env u fun j z hj hlj hz hzd => ?_
          have h5 := hu j z hj hlj hz hzd
          by_cases hij : i = j
          · subst hij
            rw [hx] at hz; cases hz
            rw [hd] at hzd; cases hzd
            exact absurd rfl hud
          · rw [getD_set_ne true hij] at h5; exact h5
    ·
      have hik : i = k := by
        rcases Nat.lt_trichotomy i k with h | h | h
        · rw [b.done i hin h] at hun; cases hun
        · exact h
        · have := ready_waits hi (chain_spec fl.chain (by have := b.lo; omega) hisz)
          rw [getD_both (b.todo (i - 1) (by omega) (by omega))] at this
          cases this
      subst hik
      have hst := d.go i x hx
      have htail := fl.strong i x hin hx
      obtain ⟨f, v, t', h1, h2, h3, h4, h5, h6⟩ := tail_one htail b.mem b.kk (fun u hu => b.env u fun j z hj hlj hz hzd => by
        obtain ⟨z', y, dd, hz', hop, hd, hg, hyd, hno⟩ := late_spec hlj
        rw [hz] at hz'
        cases hz'
        rw [hzd] at hd
        cases hd
        exact getD_up (ready_waits hi ((hno i x hin hx).2.2 hu))) hst
      unfold wpOpIn
      simp only [hoi]
      refine one_wp hcall htr hlat.rep (by rw [hlat.size]; exact hN) h1 fun E a' hl' _ => ?_
      rw [hlat.k] at hl'
      refine ih _ a' E _ (i + 1) hleft ?_ (hlat.trans hl')
      refine ⟨by omega, by omega, by simp [b.size], fun j hj hjl => ?_, fun j h7 h8 => ?_, fun j h7 h8 => ?_, h2, h3, fun u hu => ?_⟩
      · rw [getD_set_ne true (by omega)]; exact b.head j hj hjl
      · by_cases hij : i = j
        · subst hij; simp [b.size, hisz]
        · rw [getD_set_ne true hij]; exact b.done j h7 (by omega)
      · rw [getD_set_ne true (by omega)]; exact b.todo j (by omega) h8
      · rw [h5, h6]
        by_cases hud : x.dst = some u
        · rw [if_pos hud, if_pos hud]
        · rw [if_neg hud, if_neg hud, b.env u fun j z hj hlj hz hzd => ?_]
          have h9 := hu j z hj hlj hz hzd
          rwa [getD_set_ne true (by omega)] at h9
theorem Drawn.late {ro : Option Nat} (d : Drawn call P num N ops xs n s0 sF S fun _ => false) (fl : Floats ops xs n) (hcall : CallOK num P call) {Q : Exit → Act → World → Prop} {k0 : Nat} {C : Cx} {m : Mem} {a0 : Act} (hN : N ≤ a0.tmps.size) (hQ : ∀ D a', Later num k0 C m a0 D sF a' → Q .normal a' D.w) :
    ∀ (c : Nat) (listed : Array Bool) (a : Act) (D : Cx) (t : St), left ops.size listed = c → HeadInv .any ops n listed → Part xs n S listed t → Later num k0 C m a0 D t a → wpAnyIn (fz ro) 0 P .any ops Q c listed a D.w := by
  intro c
  induction c with
  | zero =>
    intro listed a D t hl inv p hlat
    have := List.countP_eq_zero.1 hl n (List.mem_range.2 fl.lt)
    rw [inv.tail n (Nat.le_refl _) fl.lt] at this
    simp at this
  | succ c ih =>
    intro listed a D t hl inv p hlat
    by_cases hall : ∀ i, i < n → lateB ops xs n i = false → listed.getD i true = true
    ·
      refine d.behind fl hcall hN hQ (c + 1) listed a D t n hl ⟨Nat.le_refl _, d.hn, inv.size, hall, fun i h1 h2 => by omega, inv.tail, ?_, p.k.trans (d.pre 0 n (Nat.zero_le _) (Nat.le_refl _)).2.2.symm, fun u hu => ?_⟩ hlat
      · refine List.ext_getElem? fun id => ?_
        rcases Nat.lt_or_ge id (S n).mem.length with h | h
        · refine p.live id h fun j hj h1 h2 => ?_
          cases hlj : lateB ops xs n j with
          | false => exact hall j hj hlj
          | true =>
            obtain ⟨x, y, dd, hx, hop, hd, hg, _⟩ := late_spec hlj
            have := d.step j x hj hx
            simp only [exOne, hg, hop, exOp, Option.map_some, hd, Option.some.injEq] at this
            rw [← this] at h2
            exact absurd h2 (by show ¬ id < (S j).mem.length; omega)
        · rw [List.getElem?_eq_none h, List.getElem?_eq_none (by rw [p.len]; exact h)]
      · by_cases hw : ∃ (j : Nat) (y : XO), j < n ∧ xs[j]? = some y ∧ y.dst = some u
        · obtain ⟨j, y, hj, hy, hd⟩ := hw
          have hlj : listed.getD j true = true := by
            cases hl : lateB ops xs n j with
            | false => exact hall j hj hl
            | true => exact hu j y hj hl hy hd
          rw [(p.done j y u hj hy hd hlj).1]
          exact (d.get u (j + 1) n (by omega) (Nat.le_refl _) fun k z h5 h6 h7 => by
            rcases (d.one k j z y u h6 hj h7 hy hd).1 with h | h
            · omega
            · exact h).symm
        · rw [(p.not u fun j y h1 h2 h3 => absurd ⟨j, y, h1, h2, h3⟩ hw).1]
          exact (d.get u 0 n (Nat.zero_le _) (Nat.le_refl _) fun k z _ h6 h7 h8 => hw ⟨k, z, h6, h7, h8⟩).symm
    · have hex : ∃ j, j < n ∧ lateB ops xs n j = false ∧ listed.getD j true = false := by
        apply Classical.byContradiction
        intro hne
        apply hall
        intro i hi hli
        cases h : listed.getD i true with
        | true => rfl
        | false => exact absurd ⟨i, hi, hli, h⟩ hne
      obtain ⟨j, hj, hlj, hjun⟩ := hex
      refine ⟨fun h => absurd h (fl.ready_some inv.size (by omega)), fun i hi => ?_⟩
      obtain ⟨hun, oi, hoi, _⟩ := mem_ready.1 hi
      have hisz : i < ops.size := (Array.getElem?_eq_some_iff.1 hoi).1
      have hin : i < n := by
        rcases Nat.lt_or_ge i n with h | h
        · exact h
        · exact absurd hi (fl.waits inv _ j rfl hj hlj hjun i h)
      obtain ⟨x, hx, htr⟩ := d.tr i oi rfl hoi
      obtain ⟨t1, h1, hnext⟩ := d.part_step hcall p hin hi hx (fun fn l hop => by rw [(trOper_spec htr).1]; simp only [XO.wipe, hop, XOp.wipe]) hlat.rep
      unfold wpOpIn
      simp only [hoi]
      refine one_wp hcall htr hlat.rep (by rw [hlat.size]; exact hN) h1 fun E a' hl' _ => ?_
      obtain ⟨t2, F, hw, hl2, p2⟩ := hnext E a' hl'.rep
      rw [← hw]
      refine ih _ a' F t2 (by have := left_set hisz hun; omega) (inv.set hi hin) p2 ?_
      rw [hlat.k] at hl'
      rw [hl'.k] at hl2
      exact (hlat.trans hl').trans hl2
end
section
variable {num : Names} {P : Program}
theorem region_wp {ro : Option Nat} {call : Calls'} (hcall : CallOK num P call) (hmix : P.follows .mixedOrders = true) {N id : Nat} {ops : Array Oper} {draw : Bool} {keep : List Nat} {xs : List XO} (htr : trOps P num N ops ops.toList = xs.map XO.wipe) (hd : drawsOk (.region id ops draw) (.region keep xs) = true) {C : Cx} {s s' : St} {a : Act} (hs : SRep num C s a) (hN : N ≤ a.tmps.size) (h : exOps call s xs = some s')
    {Q : Exit → Act → World → Prop} (hQ : ∀ D a', Later num s.k C s.mem a D s' a' → Q .normal a' D.w) : (Code.region id ops draw).wpIn (fz ro) 0 P Q a C.w := by
  cases draw with
  | false => exact wpIn_region_list (list_wp hcall ops.toList xs htr hs hN h hQ)
  | true =>
    simp only [drawsOk, Bool.and_eq_true, beq_iff_eq, List.any_eq_true] at hd
    obtain ⟨⟨n, hn, hok⟩, hlen⟩ := hd
    rw [Bool.or_eq_true] at hok
    rcases hok with hok | hok
    case inr =>
      simp only [drawOkL, Bool.and_eq_true] at hok
      obtain ⟨⟨⟨⟨⟨⟨k1, k2⟩, k3⟩, k4⟩, k5⟩, k6⟩, k7⟩ := hok
      simp only [decide_eq_true_eq] at k6
      obtain ⟨S, d⟩ := drawn_of (call := call) (s0 := s) htr hlen k1 k2 k3 (by omega) h
      have fl : Floats ops xs n := by
        refine ⟨fun j z hj hz => ?_, fun i hi hli => ?_, k6.1, k6.2, fun i o ho e he hb => ?_⟩
        · refine List.all_eq_true.1 k4 z (List.mem_of_getElem? (i := j - n) ?_)
          rw [List.getElem?_drop, ← hz]
          congr 1; omega
        · have := List.all_eq_true.1 k5 i (List.mem_range.2 hi)
          rw [hli, Bool.false_or] at this
          obtain ⟨j, hj, h2⟩ := List.any_eq_true.1 this
          simp only [Bool.and_eq_true, decide_eq_true_eq, Bool.or_eq_true, beq_iff_eq, Bool.not_eq_true'] at h2
          exact ⟨j, by have := List.mem_range.1 hj; omega, h2.1, h2.2.1, h2.2.2⟩
        · have := List.all_eq_true.1 k7 i (List.mem_range.2 (Array.getElem?_eq_some_iff.1 ho).1)
          simp only [ho] at this
          have := Array.all_eq_true_iff_forall_mem.1 this e he
          simpa [hb] using this
      refine wpIn_region_any hmix ?_
      have h0 := draw_later hs
      have h1 := room_later h0.rep ((S n).mem.length - s.mem.length)
      exact d.late fl hcall (Q := Q) (k0 := s.k) (C := C) (m := s.mem) (a0 := a) hN hQ ops.size (Array.replicate ops.size false) a _ _ (replicate_left ops.size ops.size (Nat.le_refl _))
        ⟨by simp, fun j oj _ hl => (by rw [getD_replicate_false] at hl; cases hl), fun t ht h2 => getD_in (by simpa using h2) (getD_replicate_false _ _)⟩
        (d.start h0.rep) (h0.trans h1)
    simp only [drawOk, Bool.and_eq_true] at hok
    obtain ⟨⟨⟨⟨k1, k2⟩, k3⟩, k4⟩, k5⟩ := hok
    have htail : n = ops.size ∨ (n < ops.size ∧ Region.sinkB .any ops n = true ∧ Region.chainB .any ops n = true) := by
      simp only [Bool.or_eq_true, beq_iff_eq, Bool.and_eq_true, decide_eq_true_eq] at k4
      rcases k4 with h | ⟨⟨h, h'⟩, h''⟩
      · exact .inl h
      · exact .inr ⟨h, h', h''⟩
    have hn' : n ≤ ops.size := by rcases htail with h | h <;> omega
    obtain ⟨S, d⟩ := drawn_of (call := call) (s0 := s) htr hlen k1 k2 k3 hn' h
    refine wpIn_region_any hmix ?_
    have h0 := draw_later hs
    have h1 := room_later h0.rep ((S n).mem.length - s.mem.length)
    have := d.any (ro := ro) htail k5 hcall (Q := Q) (k := s.k) (C := C) (m := s.mem) (a0 := a) hN hQ n (Array.replicate ops.size false) a _ _ (replicate_left n ops.size hn')
      ⟨by simp, fun j oj _ hl => (by rw [getD_replicate_false] at hl; cases hl), fun t ht h2 => getD_in (by simpa using h2) (getD_replicate_false _ _)⟩
      (d.start h0.rep) (h0.trans h1)
    rw [show n + (ops.size - n) = ops.size by omega] at this
    exact this
end
end Go.EX


set_option linter.unusedVariables false
set_option linter.unusedSimpArgs false
namespace Go.EX
section
variable {num : Names} {P : Program}
theorem wpIn_scope_straight {F : Fence} {n : Nat} {c : Code} {Q : Exit → Act → World → Prop} {a : Act} {w : World} (h : c.wpIn F n P (Exit.noGoto Q) a w) : (Code.scope c).wpIn F n P Q a w := by
  intro b k cs hro hb hr
  obtain ⟨e, a₁, w₁, hq, harr⟩ := h b (.inScope c :: k) cs hro hb hr
  have h0 : (lone (b.atR a (.code (.scope c) :: k)) cs w).fenced P F := fenced_calm hb hr rfl
  have s0 : step P (lone (b.atR a (.code (.scope c) :: k)) cs w) = .next (lone (b.atR a (.code c :: .inScope c :: k)) cs w) := step_lone_go (by simp [stepG, stepG.exec, Frame.atR])
  have s1 : ∀ a w, step P (lone (b.atR a (.inScope c :: k)) cs w) = .next (lone (b.atR a k) cs w) := fun a w => step_lone_go (by simp [stepG, stepG.exec, Frame.atR])
  cases e with
  | normal => exact ⟨.normal, a₁, w₁, hq, .head h0 s0 (StepsIn.trans harr (.one (fenced_calm hb hr rfl) (s1 _ _)))⟩
  | goto l => exact hq.elim
  | exit id => exact ⟨_, a₁, w₁, hq, .of_steps (.one h0 s0) ⟨fun k' hk => harr.1 k' (by simp [exitTo, hk]), fun hr hk => by
      obtain ⟨k₁, h1, h2⟩ := harr.2 hr (by simp [exitTo, hk])
      exact ⟨k₁, h1, h2⟩⟩⟩
  | ret => exact ⟨_, a₁, w₁, hq, .of_steps (.one h0 s0) harr⟩
  | panic ch => exact ⟨_, a₁, w₁, hq, .of_steps (.one h0 s0) harr⟩
  | outgrown => exact ⟨_, a₁, w₁, hq, .of_steps (.one h0 s0) harr⟩
theorem putObj_tr {C : Cx} {b : Nat} {o : Obj} (hI : ¬ C.I b) (hb : ∀ arr e fz, C.w.heap[b]? ≠ some (.cells arr e fz)) : Tr some C { C with w := C.w.putObj b o } := by
  refine ⟨fun _ h => h, fun c hc => ?_, fun i j hi hj => ?_⟩
  · exact World.putObj_heap_other (fun h => hI (by rw [← h]; exact hc))
  · cases hj
    refine ⟨hi, rfl, fun n e h => h.same ?_⟩
    refine World.putObj_heap_other fun heq => ?_
    obtain ⟨arr, fz, h1, _⟩ := h
    rw [heq] at h1
    exact hb _ _ _ h1
theorem loop_step {C : Cx} {m : Mem} (hm : MRep num C m) {id : Nat} {env : Env} {ps : List Nat} {as b : XCode} {y : Bool} (ho : m[id]? = some (.loop env ps as b y)) {ob : Obj} {o' : AObj}
    (ho' : ORep num { C with w := C.w.putObj (C.σ id) ob } id o') (hf : o'.isFix = false) {k : Nat} (hk : k ≤ m.length) : Step num k C m { C with w := C.w.putObj (C.σ id) ob } (m.set id o') := by
  obtain ⟨R, N, hR, _⟩ := hm.obj id _ ho
  have hI : ¬ C.I (C.σ id) := hm.imm _ ⟨id, _, ho, rfl, rfl⟩
  have hc : ∀ arr e fz, C.w.heap[C.σ id]? ≠ some (.cells arr e fz) := fun arr e fz h => by rw [hR] at h; cases h
  have ht := putObj_tr (o := ob) hI hc
  have hlt : id < m.length := (List.getElem?_eq_some_iff.1 ho).1
  have split : ∀ (i : Nat) (p : AObj), (m.set id o')[i]? = some p → (i = id ∧ p = o') ∨ (i ≠ id ∧ m[i]? = some p) := by
    intro i p hp
    rw [set_get] at hp
    split at hp
    · rename_i h; cases hp; exact .inl ⟨h.1.symm, rfl⟩
    · rename_i h
      refine .inr ⟨fun he => h ⟨he.symm, by rw [he]; exact hlt⟩, hp⟩
  have hne : ∀ (i : Nat) (p : AObj), i ≠ id → m[i]? = some p → p.live = true → C.σ i ≠ C.σ id := by
    intro i p hi hp hl he
    exact hi (hm.inj2 num i id p _ hp ho hl rfl rfl he)
  have hown : ∀ c, Own { C with w := C.w.putObj (C.σ id) ob } (m.set id o') c → Own C m c := by
    rintro c ⟨i, p, hp, hl, hb⟩
    rcases split i p hp with ⟨rfl, rfl⟩ | ⟨hi, hp'⟩
    · exact ⟨i, _, ho, rfl, hb⟩
    · exact ⟨i, p, hp', hl, hb⟩
  refine ⟨⟨by simp; exact hm.len, ?_, ?_, fun c hc' => hm.imm c (hown c hc'), fun c hc' => by simp; exact hm.bd c hc', num.up hm.glo ht.imm ht.keep⟩, rfl, rfl, rfl, by simp, ?_, ?_, fun _ h => h, fun _ h => .inl h, fun c hc' => .inr (hown c hc'), ?_, by simp; exact hk⟩
  · intro i p hp
    rcases split i p hp with ⟨rfl, rfl⟩ | ⟨hi, hp'⟩
    · exact ho'
    · by_cases hl : p.live = true
      · exact orep_mono ht rfl (fun x hx => by rw [← hx]; exact World.putObj_heap_other (hne i p hi hp' hl)) (hm.obj i p hp')
      · cases p with
        | dead => trivial
        | _ => exact absurd rfl hl
  · intro i j p q hp hq hlp hlq he
    rcases split i p hp with ⟨rfl, rfl⟩ | ⟨hi, hp'⟩ <;> rcases split j q hq with ⟨rfl, rfl⟩ | ⟨hj, hq'⟩
    · exact .inl rfl
    · exact absurd he.symm (hne j q hj hq' hlq)
    · exact absurd he (hne i p hi hp' hlp)
    · exact hm.inj i j p q hp' hq' hlp hlq he
  · intro c hc' hno
    exact World.putObj_heap_other fun he => hno ⟨id, _, ho, rfl, he.symm⟩
  · intro c n e h
    refine h.same (World.putObj_heap_other fun heq => ?_)
    obtain ⟨arr, fz, h1, _⟩ := h
    rw [heq] at h1
    exact hc _ _ _ h1
  · intro i hi p hp hmv
    rcases split i p hp with ⟨rfl, rfl⟩ | ⟨hi', hp'⟩
    · exact ⟨_, ho, rfl, rfl⟩
    · exact ⟨p, hp', hmv, rfl⟩
theorem putObj_step {C D : Cx} {m m' : Mem} {k : Nat} (hst : Step num k C m D m') {b : Nat} {o : Obj} (hlo : C.w.heap.size ≤ b) (hI : ¬ D.I b) (hb : ∀ arr e fz, D.w.heap[b]? ≠ some (.cells arr e fz)) (hown : ¬ Own D m' b) :
    Step num k C m { D with w := D.w.putObj b o } m' := by
  have ht := putObj_tr (o := o) hI hb
  refine ⟨⟨hst.rep.len, fun i p hp => ?_, hst.rep.inj, hst.rep.imm, fun c hc => by simp; exact hst.rep.bd c hc, num.up hst.rep.glo ht.imm ht.keep⟩, hst.os, hst.tape, hst.out, by simp; exact hst.size, fun c hc hno => ?_, fun c n e h => ?_, hst.imm, hst.imm', hst.own, hst.same, hst.len⟩
  · by_cases hl : p.live = true
    · exact orep_mono ht rfl (fun x hx => by rw [← hx]; exact World.putObj_heap_other fun he => hown ⟨i, p, hp, hl, he⟩) (hst.rep.obj i p hp)
    · cases p with
      | dead => trivial
      | _ => exact absurd rfl hl
  · rw [← hst.keep c hc hno]
    exact World.putObj_heap_other (by omega)
  · have h1 := hst.sz c n e h
    refine h1.same (World.putObj_heap_other fun heq => ?_)
    obtain ⟨arr, fz, h2, _⟩ := h1
    rw [heq] at h2
    exact hb _ _ _ h2
theorem get_mem (e : Env) (t : Nat) : e.get t = .junk ∨ (t, e.get t) ∈ e := by
  induction e with
  | nil => exact .inl rfl
  | cons p r ih =>
    obtain ⟨k, v⟩ := p
    simp only [Env.get]
    by_cases h : t = k
    · subst h; rw [if_pos rfl]; exact .inr (List.mem_cons_self ..)
    · rw [if_neg h]
      rcases ih with ih | ih
      · exact .inl ih
      · exact .inr (List.mem_cons_of_mem _ ih)
theorem erep_of {C : Cx} {e : Env} {tmps : Array Value} (h : ∀ p ∈ e, ARep num C p.2 (tmps.getD p.1 undef)) : ERep num C e tmps := by
  intro t
  rcases get_mem e t with h1 | h1
  · rw [h1]; exact .junk _
  · exact h _ h1
theorem enterAt_rep {C : Cx} : ∀ (ps : List Nat) (xs : List AV) (vs : List Value) {e : Env} {tmps : Array Value}, ERep num C e tmps → (∀ p ∈ ps, p < tmps.size) → xs.length = vs.length →
    (∀ (j : Nat) (x : AV) (u : Value), xs[j]? = some x → vs[j]? = some u → ARep num C x u) → ERep num C (e.enterAt ps xs) ((ps.zip vs).foldl (fun t p => t.setIfInBounds p.1 p.2) tmps)
  | [], xs, vs, e, tmps, he, _, _, _ => by simpa [Env.enterAt] using he
  | p :: ps, [], vs, e, tmps, he, _, hl, _ => by
    obtain rfl : vs = [] := by simpa using hl.symm
    simpa [Env.enterAt] using he
  | p :: ps, x :: xs, [], e, tmps, he, _, hl, _ => by simp at hl
  | p :: ps, x :: xs, v :: vs, e, tmps, he, hp, hl, hr => by
    simp only [Env.enterAt, List.zip_cons_cons, List.foldl_cons]
    refine enterAt_rep ps xs vs (ERep.put (a := { tmps := tmps, defers := [] }) he (hp p (List.mem_cons_self ..)) (hr 0 x v rfl rfl)) (fun q hq => by simpa [Act.put] using hp q (List.mem_cons_of_mem _ hq)) (by simpa using hl) fun j y u hy hu => hr (j + 1) y u (by simpa using hy) (by simpa using hu)
theorem foldl_set_size (l : List (Nat × Value)) : ∀ (tmps : Array Value), (l.foldl (fun t p => t.setIfInBounds p.1 p.2) tmps).size = tmps.size := by
  induction l with
  | nil => intro t; rfl
  | cons p l ih => intro t; rw [List.foldl_cons, ih]; simp
end
end Go.EX


set_option linter.unusedVariables false
set_option linter.unusedSimpArgs false
namespace Go.EX
section
variable {num : Names} {P : Program}
variable {call : Calls'} {N : Nat} {ops : Array Oper} {xs : List XO} {n : Nat} {s0 sF : St} {S : Nat → St} {sp : Nat → Bool}
theorem Drawn.anyJ {ro : Option Nat} (d : Drawn call P num N ops xs n s0 sF S sp) (hspt : ∀ i, n ≤ i → sp i = false) (htail : n = ops.size ∨ (n < ops.size ∧ Region.sinkB .any ops n = true ∧ Region.chainB .any ops n = true)) (hseq : Region.seqB .any ops (ops.size - n) n (headArr ops.size n) = true) (hcall : CallOK num P call) {Q : Exit → Act → World → Prop} {k : Nat} {C : Cx} {m : Mem} {a0 : Act} (hN : N ≤ a0.tmps.size) (hQ : ∀ D a', Later num k C m a0 D sF a' → Q .normal a' D.w)
    (J : Array Bool → Cx → St → Act → Prop)
    (hJ : ∀ listed D t a i x E t1 a' F t2, i < n → sp i = false → listed.getD i true = false → xs[i]? = some x → J listed D t a → Later num t.k D t.mem a E t1 a' → (∃ v, a' = a.put x.dst v) → Later num t1.k E t1.mem a' F t2 a' → J (listed.setIfInBounds i true) F t2 a')
    (hS : ∀ listed D t a i o, i < n → sp i = true → HeadInv .any ops n listed → i ∈ Region.ready .any ops listed → ops[i]? = some o → Part xs n S listed t → Later num k C m a0 D t a → J listed D t a → ∀ K : Act → World → Prop,
      (∀ F t2 a', Later num k C m a0 F t2 a' → Part xs n S (listed.setIfInBounds i true) t2 → J (listed.setIfInBounds i true) F t2 a' → K a' F.w) →
      if Region.wanted o (yielded ops a.tmps) then o.wpIn (fz ro) 0 P a D.w K Q else (∀ f, o.about P D.w a.eval = some f → (fz ro).fn f) ∧ K (a.put o.dst undef) D.w) :
    ∀ (c : Nat) (listed : Array Bool) (a : Act) (D : Cx) (t : St), left n listed = c → HeadInv .any ops n listed → Part xs n S listed t → Later num k C m a0 D t a → J listed D t a → wpAnyIn (fz ro) 0 P .any ops Q (c + (ops.size - n)) listed a D.w := by
  intro c
  induction c with
  | zero =>
    intro listed a D t hl inv p hlat _
    rw [Nat.zero_add]
    have hall : ∀ i, i < n → listed.getD i true = true := by
      intro i hi
      cases h : listed.getD i true with
      | true => rfl
      | false =>
        have := List.countP_eq_zero.1 hl i (List.mem_range.2 hi)
        simp [h] at this
    have hhead := headArr_of inv.size d.hn hall inv.tail
    have hdl : (ops.toList.drop n).length = ops.size - n := by simp
    obtain ⟨h1, h2, h3⟩ := d.all p hall
    have hSn : Later num k C m a0 D (S n) a :=
      ⟨⟨by rw [← h1]; exact hlat.rep.mem, fun u => by rw [← h2]; exact hlat.rep.env u, by rw [← h1, ← h3]; exact hlat.rep.k⟩, by rw [← h1]; exact hlat.step, by rw [← h3]; exact hlat.k, hlat.size, hlat.marks⟩
    have htr : trOps P num N ops (ops.toList.drop n) = (xs.drop n).map XO.wipe := by
      refine trOps_of _ _ (by simp [d.len]) fun i o hi => ?_
      rw [List.getElem?_drop] at hi
      obtain ⟨x, hx, h⟩ := d.tr (n + i) o (hspt _ (by omega)) (by simpa using hi)
      exact ⟨x, by rw [List.getElem?_drop]; exact hx, h⟩
    have hw := list_wp (ro := ro) hcall (Q := Q) (ops.toList.drop n) (xs.drop n) htr hSn.rep (by rw [hSn.size]; exact hN) d.rest fun E a'' hl' => hQ E a'' (hSn.trans (by rw [hSn.k] at hl'; exact hl'))
    have := wpAnyIn_of_seq (md := .any) (Q' := Q) (ops.toList.drop n) n listed a D.w (fun j => by simp [List.getElem?_drop]) (by rw [hdl, hhead]; exact hseq) hw
    rwa [hdl] at this
  | succ c ih =>
    intro listed a D t hl inv p hlat hj
    rw [show c + 1 + (ops.size - n) = (c + (ops.size - n)) + 1 by omega]
    refine ⟨fun h => absurd h (d.ready_some inv.size (by omega)), fun i hi => ?_⟩
    obtain ⟨hun, oi, hoi, _⟩ := mem_ready.1 hi
    have hisz : i < ops.size := (Array.getElem?_eq_some_iff.1 hoi).1
    have hin : i < n := by
      rcases htail with h | ⟨h1, h2, h3⟩
      · omega
      · rcases Nat.lt_or_ge i n with h | h
        · exact h
        · obtain ⟨j, hj, h4⟩ := List.countP_pos_iff.1 (show 0 < left n listed by omega)
          exact absurd hi (tail_waits h2 h3 h1 inv _ j rfl (List.mem_range.1 hj) (by simpa using h4) i h)
    have hleft := left_set hin hun
    unfold wpOpIn
    simp only [hoi]
    cases hsp : sp i with
    | false =>
      obtain ⟨x, hx, htr⟩ := d.tr i oi hsp hoi
      obtain ⟨t1, h1, hnext⟩ := d.part_step hcall p hin hi hx (fun fn l hop => by rw [(trOper_spec htr).1]; simp only [XO.wipe, hop, XOp.wipe]) hlat.rep
      refine one_wp hcall htr hlat.rep (by rw [hlat.size]; exact hN) h1 fun E a' hl' hput => ?_
      obtain ⟨t2, F, hw, hl2, p2⟩ := hnext E a' hl'.rep
      rw [← hw]
      have hdst : x.dst = oi.dst := (trOper_spec htr).2.2.1
      refine ih _ a' F t2 (by omega) (inv.set hi hin) p2 ?_ (hJ listed D t a i x E t1 a' F t2 hin hsp hun hx hj hl' (by rw [hdst]; exact hput) hl2)
      rw [hlat.k] at hl'
      rw [hl'.k] at hl2
      exact (hlat.trans hl').trans hl2
    | true =>
      exact hS listed D t a i oi hin hsp inv hi hoi p hlat hj _ fun F t2 a' hl' p2 hj' => ih _ a' F t2 (by omega) (inv.set hi hin) p2 hl' hj'
def mapObj (es : List (Value × Value)) : AObj := .map (es.map fun p => (.imm (.val p.1), .imm (.val p.2)))
structure Box (C0 : Cx) (m0 : Mem) (D : Cx) (m : Mem) (b : Nat) (es : List (Value × Value)) : Prop where
  own0 : C0.w.heap.size ≤ b ∨ Own C0 m0 b
  lt : b < D.w.heap.size
  row : ∃ (es' : Array MapEntry) (clk : Nat), D.w.heap[b]? = some (.map es' clk) ∧ es'.size = es.length ∧ ∀ (j : Nat) p x, es[j]? = some p → es'[j]? = some x → x.key = p.1 ∧ x.val = p.2
  imm : ¬ D.I b
  no : ¬ Own D m b
  one : ∀ p ∈ es, p.1.oneCell' = true ∧ p.2.oneCell' = true
theorem Box.keep {C0 D E : Cx} {m0 m m' : Mem} {b k : Nat} {es : List (Value × Value)} (B : Box C0 m0 D m b es) (h : Step num k D m E m') : Box C0 m0 E m' b es := by
  refine ⟨B.own0, Nat.lt_of_lt_of_le B.lt h.size, ?_, fun hI => ?_, fun ho => ?_, B.one⟩
  · obtain ⟨es', clk, h1, h2⟩ := B.row
    exact ⟨es', clk, by rw [h.keep b B.lt B.no]; exact h1, h2⟩
  · rcases h.imm' b hI with h1 | h1 | h1
    · exact B.imm h1
    · have := B.lt; omega
    · exact B.no h1
  · rcases h.own b ho with h1 | h1
    · have := B.lt; omega
    · exact B.no h1
def ov (t : St) (q : Nat) (es : List (Value × Value)) : St := { k := t.k, env := (q, .omap t.mem.length) :: t.env, mem := t.mem ++ [mapObj es] }
theorem over {C0 D : Cx} {m0 : Mem} {k : Nat} {a0 a : Act} {t : St} {b q : Nat} {es : List (Value × Value)} (h : Later num k C0 m0 a0 D t a) (B : Box C0 m0 D t.mem b es) (hq : a.tmps.getD q undef = .map (some b)) :
    ∃ E, E.w = D.w ∧ Later num k C0 m0 a0 E (ov t q es) a := by
  have hm := h.rep.mem
  have hlen := hm.len
  let E : Cx := { σ := fun i => if i = D.n then b else D.σ i, I := D.I, n := D.n + 1, w := D.w }
  have hσ : ∀ i, i < t.mem.length → E.σ i = D.σ i := fun i hi => by show (if i = D.n then b else D.σ i) = _; rw [if_neg (by omega)]
  have hσn : E.σ D.n = b := by show (if D.n = D.n then b else _) = _; rw [if_pos rfl]
  have ht : Tr some D E := ⟨fun _ h => h, fun _ _ => rfl, fun i j hi hj => by cases hj; exact ⟨by show _ < D.n + 1; omega, hσ i (by omega), fun _ _ h => h⟩⟩
  have split : ∀ (i : Nat) p, (t.mem ++ [mapObj es])[i]? = some p → (i < t.mem.length ∧ t.mem[i]? = some p) ∨ (i = D.n ∧ p = mapObj es) := by
    intro i p hp
    rcases Nat.lt_or_ge i t.mem.length with h | h
    · rw [List.getElem?_append_left h] at hp; exact .inl ⟨h, hp⟩
    · rw [List.getElem?_append_right h] at hp
      have h0 : i - t.mem.length = 0 := by
        rcases Nat.eq_zero_or_pos (i - t.mem.length) with h0 | h0
        · exact h0
        · rw [List.getElem?_eq_none (by simp; omega)] at hp; cases hp
      rw [h0] at hp
      exact .inr ⟨by omega, by simpa using hp.symm⟩
  have hown : ∀ c, Own E (t.mem ++ [mapObj es]) c → c = b ∨ Own D t.mem c := by
    rintro c ⟨i, p, hp, hl, hc⟩
    rcases split i p hp with ⟨hi, hp'⟩ | ⟨rfl, rfl⟩
    · rw [hσ i hi] at hc; exact .inr ⟨i, p, hp', hl, hc⟩
    · rw [hσn] at hc; exact .inl hc.symm
  have hrep : MRep num E (t.mem ++ [mapObj es]) := by
    refine ⟨by show _ = D.n + 1; simp [hlen], fun i p hp => ?_, fun i j p p2 hp hp2 hl1 hl2 he => ?_, fun c hc hI => ?_, hm.bd, hm.glo⟩
    · rcases split i p hp with ⟨hi, hp'⟩ | ⟨rfl, rfl⟩
      · exact orep_mono ht (hσ i hi) (fun _ h => h) (hm.obj i p hp')
      · obtain ⟨es', clk, h1, h2, h3⟩ := B.row
        refine ⟨es', clk, by rw [hσn]; exact h1, by simpa using h2, fun j p x hp hx => ?_⟩
        rw [List.getElem?_map, Option.map_eq_some_iff] at hp
        obtain ⟨pp, hpp, rfl⟩ := hp
        obtain ⟨h4, h5⟩ := h3 j pp x hpp hx
        obtain ⟨h6, h7⟩ := B.one pp (List.mem_of_getElem? hpp)
        exact ⟨by rw [h4]; exact .imm _ _ (.val _ h6), by rw [h5]; exact .imm _ _ (.val _ h7)⟩
    · rcases split i p hp with ⟨hi, hp'⟩ | ⟨rfl, rfl⟩ <;> rcases split j p2 hp2 with ⟨hj, hp2'⟩ | ⟨rfl, rfl⟩
      · rw [hσ i hi, hσ j hj] at he; exact hm.inj i j p p2 hp' hp2' hl1 hl2 he
      · rw [hσ i hi, hσn] at he; exact absurd ⟨i, p, hp', hl1, he⟩ B.no
      · rw [hσ j hj, hσn] at he; exact absurd ⟨j, p2, hp2', hl2, he.symm⟩ B.no
      · exact .inl rfl
    · rcases hown c hc with rfl | h'
      · exact B.imm hI
      · exact hm.imm c h' hI
  refine ⟨E, rfl, ⟨hrep, fun u => ?_, by show t.k ≤ (t.mem ++ [mapObj es]).length; have := h.rep.k; simp; omega⟩, ⟨hrep, h.step.os, h.step.tape, h.step.out, h.step.size, h.step.keep, h.step.sz, h.step.imm, h.step.imm', fun c hc => ?_, fun i hi p hp hmv => ?_, ?_⟩, h.k, h.size, h.marks⟩
  · show ARep num E (Env.get ((q, .omap t.mem.length) :: t.env) u) _
    simp only [Env.get]
    split
    · rename_i hu
      subst hu
      rw [hq, ← hσn, ← hlen]
      exact .omap _ (by show _ < D.n + 1; omega)
    · exact (h.rep.env u).mono ht
  · rcases hown c hc with rfl | h'
    · exact B.own0
    · exact h.step.own c h'
  · have hk := h.rep.k
    rw [h.k] at hk
    rcases split i p hp with ⟨hi', hp'⟩ | ⟨rfl, rfl⟩
    · obtain ⟨o, h1, h2, h3⟩ := h.step.same i hi p hp' hmv
      exact ⟨o, h1, h2, by rw [hσ i hi']; exact h3⟩
    · omega
  · show k ≤ (t.mem ++ [mapObj es]).length
    have := h.step.len
    simp; omega
theorem place_range {n id : Nat} (h : id < n) : place (List.range n) id = some id := place_of _ _ _ List.nodup_range (by simp [h])
theorem under {C0 E : Cx} {m0 : Mem} {k : Nat} {a0 a' : Act} {t t1 u : St} {es : List (Value × Value)} (h : Later num k C0 m0 a0 E u a') (hum : u.mem = t.mem ++ [mapObj es]) (hk : u.k = t.k) (htk : t.k ≤ t.mem.length) (h1 : t1.mem = t.mem) (h1k : t1.k = t.k)
    (henv : ∀ w, t1.env.get w = u.env.get w ∨ t1.env.get w = .junk) (hrefs : ∀ w, ∀ id ∈ (t1.env.get w).refs, id < t.mem.length) (hobj : ∀ (i : Nat) o, t.mem[i]? = some o → ∀ j ∈ o.refs, j < t.mem.length) (hone : ∀ p ∈ es, p.1.oneCell' = true ∧ p.2.oneCell' = true) :
    ∃ F, F.w = E.w ∧ Later num k C0 m0 a0 F t1 a' ∧ Box C0 m0 F t1.mem (E.σ t.mem.length) es := by
  have hm := h.rep.mem
  have hl : (List.range t.mem.length).length = t.mem.length := List.length_range
  have hmn : (u.mem)[t.mem.length]? = some (mapObj es) := by rw [hum, List.getElem?_append_right (Nat.le_refl _)]; simp
  have hpick : u.mem.pickAll (List.range t.mem.length) = t.mem := by
    refine List.ext_getElem? fun i => ?_
    rw [Mem.pickAll, List.getElem?_map]
    rcases Nat.lt_or_ge i t.mem.length with hi | hi
    · rw [List.getElem?_range hi]
      simp only [Option.map_some]
      have hq : u.mem[i]? = some t.mem[i] := by rw [hum, List.getElem?_append_left hi]; exact List.getElem?_eq_getElem hi
      rw [hq, List.getElem?_eq_getElem hi]
      simp only [Option.getD_some, Option.some.injEq]
      exact obj_ren_id fun j hj => place_range (hobj i _ (List.getElem?_eq_getElem hi) j hj)
    · rw [List.getElem?_eq_none (by simpa using hi), List.getElem?_eq_none hi]; rfl
  have hpl := pick_later h.rep (l := List.range t.mem.length) List.nodup_range (fun i hi => by rw [List.getElem?_range (by omega)]) (by rw [hl]; omega)
  rw [hpick] at hpl
  have hst := hpl.step
  have hF : Later num k C0 m0 a0 (E.pick (List.range t.mem.length)) t1 a' := by
    have h2 := h.trans (by rw [h.k] at hpl; exact hpl)
    refine ⟨⟨by rw [h1]; exact h2.rep.mem, fun w => ?_, by rw [h1, h1k]; exact htk⟩, by rw [h1]; exact h2.step, by rw [h1k, ← hk]; exact h.k, h2.size, h2.marks⟩
    rcases henv w with hw | hw
    · have h3 := (h.rep.env w).tr (pick_tr (C := E) (List.range t.mem.length))
      rw [← hw, ren_id fun id hid => place_range (hrefs w id hid)] at h3
      exact h3
    · rw [hw]; exact .junk _
  obtain ⟨es', clk, h3, h4, h5⟩ := hm.obj _ _ hmn
  have hlive : (mapObj es).live = true := rfl
  have hownb : Own E u.mem (E.σ t.mem.length) := ⟨_, _, hmn, hlive, rfl⟩
  refine ⟨E.pick (List.range t.mem.length), rfl, hF, h.step.own _ hownb, (Array.getElem?_eq_some_iff.1 h3).1, ⟨es', clk, h3, by simpa using h4, fun j p x hp hx => ?_⟩, fun hI => hm.imm _ hownb hI, fun ho => ?_, hone⟩
  · obtain ⟨h6, h7⟩ := h5 j (.imm (.val p.1), .imm (.val p.2)) x (by rw [List.getElem?_map, hp]; rfl) hx
    exact ⟨rep_val h6, rep_val h7⟩
  · rw [h1] at ho
    have ho2 : Own (E.pick (List.range t.mem.length)) (u.mem.pickAll (List.range t.mem.length)) (E.σ t.mem.length) := by rw [hpick]; exact ho
    obtain ⟨id, o, hid, ho', hlv, hb⟩ := pick_own ho2
    have hid' := List.mem_range.1 hid
    rcases hm.inj id t.mem.length o _ ho' hmn hlv hlive hb with h6 | h6
    · omega
    · cases o <;> cases h6
end
end Go.EX


set_option linter.unusedVariables false
set_option linter.unusedSimpArgs false
namespace Go.EX
section
variable {num : Names} {P : Program}
def Fills (y n : Value) : Bool → Bool → List (Value × Value) → Prop
  | false, false, es => es = []
  | true, false, es => es = [(.bool true, y)]
  | false, true, es => es = [(.bool false, n)]
  | true, true, es => es = [(.bool true, y), (.bool false, n)] ∨ es = [(.bool false, n), (.bool true, y)]
theorem fills_find1 {y n : Value} {b : Bool} {es : List (Value × Value)} (h : Fills y n false b es) (m : Mem) : findK m 1 (.imm (.val (.bool true))) (es.map fun p => (AV.imm (.val p.1), AV.imm (.val p.2))) 0 = some none := by
  cases b <;> (simp only [Fills] at h; subst h; rfl)
theorem fills_find2 {y n : Value} {b : Bool} {es : List (Value × Value)} (h : Fills y n b false es) (m : Mem) : findK m 1 (.imm (.val (.bool false))) (es.map fun p => (AV.imm (.val p.1), AV.imm (.val p.2))) 0 = some none := by
  cases b <;> (simp only [Fills] at h; subst h; rfl)
theorem fills_push1 {y n : Value} {b : Bool} {es : List (Value × Value)} (h : Fills y n false b es) : Fills y n true b (es ++ [(.bool true, y)]) := by
  cases b <;> (simp only [Fills] at h ⊢; subst h; simp)
theorem fills_push2 {y n : Value} {b : Bool} {es : List (Value × Value)} (h : Fills y n b false es) : Fills y n b true (es ++ [(.bool false, n)]) := by
  cases b <;> (simp only [Fills] at h ⊢; subst h; simp)
theorem fills_get {y n : Value} {es : List (Value × Value)} (h : Fills y n true true es) (m : Mem) (t : Bool) : ∃ i, findK m 1 (.imm (.val (.bool t))) (es.map fun p => (AV.imm (.val p.1), AV.imm (.val p.2))) 0 = some (some i) ∧ ∃ p, (es.map fun p => (AV.imm (.val p.1), AV.imm (.val p.2)))[i]? = some p ∧ p.2 = .imm (.val (if t then y else n)) := by
  simp only [Fills] at h
  rcases h with rfl | rfl <;> cases t
  · exact ⟨1, rfl, _, rfl, rfl⟩
  · exact ⟨0, rfl, _, rfl, rfl⟩
  · exact ⟨0, rfl, _, rfl, rfl⟩
  · exact ⟨1, rfl, _, rfl, rfl⟩
theorem fills_one {y n : Value} (hy : y.oneCell' = true) (hn : n.oneCell' = true) {a b : Bool} {es : List (Value × Value)} (h : Fills y n a b es) : ∀ p ∈ es, p.1.oneCell' = true ∧ p.2.oneCell' = true := by
  intro p hp
  cases a <;> cases b <;> simp only [Fills] at h
  · subst h; cases hp
  · subst h; rw [List.mem_singleton.1 hp]; exact ⟨rfl, hn⟩
  · subst h; rw [List.mem_singleton.1 hp]; exact ⟨rfl, hy⟩
  · rcases h with rfl | rfl <;> (simp at hp; rcases hp with rfl | rfl <;> first | exact ⟨rfl, hy⟩ | exact ⟨rfl, hn⟩)
variable {call : Calls'} {N : Nat} {ops : Array Oper} {zs : List XO} {n : Nat} {s0 sF : St} {S : Nat → St} {sp : Nat → Bool}
def LJ (l : LitAt) (C0 : Cx) (m0 : Mem) (listed : Array Bool) (D : Cx) (t : St) (a : Act) : Prop :=
  listed.getD l.im true = true → ∃ b es, Box C0 m0 D t.mem b es ∧ a.tmps.getD l.tA undef = .map (some b) ∧ (listed.getD l.iv true = true → a.tmps.getD l.tM undef = .map (some b)) ∧ Fills l.y l.n (listed.getD l.i1 true) (listed.getD l.i2 true) es
structure LitSpec (l : LitAt) (ops : Array Oper) (zs : List XO) (n : Nat) (z : List Value) (k : Src) (tL : Nat) : Prop where
  xA : zs[l.im]? = some ⟨some l.tA, .litA, none⟩
  x1 : zs[l.i1]? = some ⟨none, .litI 1 (.t l.tA) (.c (.bool true)) (.c l.y), none⟩
  x2 : zs[l.i2]? = some ⟨none, .litI 1 (.t l.tA) (.c (.bool false)) (.c l.n), none⟩
  xM : zs[l.iv]? = some ⟨some l.tM, .litM (.t l.tA), none⟩
  xL : zs[l.il]? = some ⟨some tL, .litL 1 z (.t l.tM) k l.y l.n, none⟩
  hy : l.y.oneCell' = true
  hn : l.n.oneCell' = true
  ltA : l.im < n
  lt1 : l.i1 < n
  lt2 : l.i2 < n
  ltM : l.iv < n
  ltL : l.il < n
  ne : l.im ≠ l.i1 ∧ l.im ≠ l.i2 ∧ l.im ≠ l.iv ∧ l.im ≠ l.il ∧ l.i1 ≠ l.i2 ∧ l.i1 ≠ l.iv ∧ l.i1 ≠ l.il ∧ l.i2 ≠ l.iv ∧ l.i2 ≠ l.il ∧ l.iv ≠ l.il ∧ l.tA ≠ l.tM
  w1 : Region.waitsFor .any ops l.i1 l.im = true
  w2 : Region.waitsFor .any ops l.i2 l.im = true
  wM : Region.waitsFor .any ops l.iv l.im = true
  wM1 : Region.waitsFor .any ops l.iv l.i1 = true
  wM2 : Region.waitsFor .any ops l.iv l.i2 = true
  wL : Region.waitsFor .any ops l.il l.iv = true
theorem set_getD {listed : Array Bool} {i j : Nat} (h : j ≠ i) : (listed.setIfInBounds i true).getD j true = listed.getD j true := getD_set_ne true (Ne.symm h)
theorem set_getD_self {listed : Array Bool} {i : Nat} : (listed.setIfInBounds i true).getD i true = true := by
  rw [Array.getD_eq_getD_getElem?, Array.getElem?_setIfInBounds]
  split <;> (try split) <;> simp_all
theorem put_getD (a : Act) (d : Option Tmp) (v w : Value) (u : Nat) (h : d ≠ some u) : (a.put d v).tmps.getD u w = a.tmps.getD u w := by
  cases d with
  | none => rfl
  | some d =>
    have : d ≠ u := fun e => h (by rw [e])
    simp only [Act.put, Array.getD_eq_getD_getElem?, Array.getElem?_setIfInBounds]
    rw [if_neg this]
theorem obj_lt {C : Cx} {s : St} {a : Act} (hs : SRep num C s a) : ∀ (i : Nat) o, s.mem[i]? = some o → ∀ j ∈ o.refs, j < s.mem.length := fun i o ho j hj => by
  have := orep_lt (hs.mem.obj i o ho) j hj
  have := hs.mem.len
  omega
theorem env_lt {C : Cx} {s : St} {a : Act} (hs : SRep num C s a) (w : Nat) : ∀ id ∈ (s.env.get w).refs, id < s.mem.length := fun id hid => by
  have := arep_lt (hs.env w) id hid
  have := hs.mem.len
  omega
theorem lit_next {ro : Option Nat} (d : Drawn call P num N ops (zs.map XO.unlit) n s0 sF S sp) (hcall : CallOK num P call) {k : Nat} {C : Cx} {m : Mem} {a0 : Act} {l : LitAt}
    {listed : Array Bool} {t : St} {i : Nat} {o : Oper} {x : XO} (hi : i < n) (hr : i ∈ Region.ready .any ops listed) (p : Part (zs.map XO.unlit) n S listed t) {D : Cx} {a : Act} (hlat : Later num k C m a0 D t a) (hx : zs[i]? = some x) (hxc : ∀ fn as, x.op.unlit ≠ .call .own fn as)
    {K : Act → World → Prop} (hK : ∀ F t2 a', Later num k C m a0 F t2 a' → Part (zs.map XO.unlit) n S (listed.setIfInBounds i true) t2 → LJ l C m (listed.setIfInBounds i true) F t2 a' → K a' F.w) :
    ∃ t1, exOne call t x.unlit = some t1 ∧ ∀ F a', Later num k C m a0 F t1 a' → LJ l C m (listed.setIfInBounds i true) F t1 a' → K a' F.w := by
  have hx' : (zs.map XO.unlit)[i]? = some x.unlit := by rw [List.getElem?_map, hx]; rfl
  obtain ⟨t1, h1, hnext⟩ := d.part_step (o := o) hcall p hi hr hx' (fun fn as h => absurd h (hxc fn as)) hlat.rep
  refine ⟨t1, h1, fun F a' hl hj => ?_⟩
  obtain ⟨t2, G, hw, hl2, p2⟩ := hnext F a' hl.rep
  rw [← hw]
  refine hK G t2 a' (hl.trans (by rw [hl.k] at hl2; exact hl2)) p2 fun him => ?_
  obtain ⟨b, es, B, hA, hM, hf⟩ := hj him
  exact ⟨b, es, B.keep hl2.step, hA, hM, hf⟩
theorem lit_wp {ro : Option Nat} {l : LitAt} {z : List Value} {kS : Src} {tL : Nat} (L : LitSpec l ops zs n z kS tL) (d : Drawn call P num N ops (zs.map XO.unlit) n s0 sF S sp) (hsp : ∀ i, sp i = true → i = l.im ∨ i = l.i1 ∨ i = l.i2 ∨ i = l.iv ∨ i = l.il) (htr : ∀ (i : Nat) o, ops[i]? = some o → ∃ x, zs[i]? = some x ∧ trOper P num N ops o = some x.wipe) (hcall : CallOK num P call) {Q : Exit → Act → World → Prop} {k : Nat} {C : Cx} {m : Mem} {a0 : Act} (hN : N ≤ a0.tmps.size)
    (listed : Array Bool) (D : Cx) (t : St) (a : Act) (i : Nat) (o : Oper) (hi : i < n) (hspi : sp i = true) (inv : HeadInv .any ops n listed) (hr : i ∈ Region.ready .any ops listed) (ho : ops[i]? = some o) (p : Part (zs.map XO.unlit) n S listed t) (hlat : Later num k C m a0 D t a) (hj : LJ l C m listed D t a) (K : Act → World → Prop)
    (hK : ∀ F t2 a', Later num k C m a0 F t2 a' → Part (zs.map XO.unlit) n S (listed.setIfInBounds i true) t2 → LJ l C m (listed.setIfInBounds i true) F t2 a' → K a' F.w) :
    if Region.wanted o (yielded ops a.tmps) then o.wpIn (fz ro) 0 P a D.w K Q else (∀ f, o.about P D.w a.eval = some f → (fz ro).fn f) ∧ K (a.put o.dst undef) D.w := by
  have hun : listed.getD i true = false := (mem_ready.1 hr).1
  have hNa : N ≤ a.tmps.size := by rw [hlat.size]; exact hN
  have htk := hlat.rep.k
  have hol := obj_lt hlat.rep
  have hel := env_lt hlat.rep
  have up : ∀ j j', Region.waitsFor .any ops j j' = true → listed.getD j false = true → listed.getD j' false = true := by
    intro j j' hw hl
    obtain ⟨o', ho', e, he, hb, hon⟩ := Region.waitsFor_spec hw
    rw [← hon]
    exact inv.closed j o' ho' hl e he hb
  have junkA : listed.getD l.im true = true → t.env.get l.tA = .junk := by
    intro h
    have hx' : (zs.map XO.unlit)[l.im]? = some ⟨some l.tA, .junk, none⟩ := by rw [List.getElem?_map, L.xA]; rfl
    rw [(p.done l.im _ l.tA L.ltA hx' rfl h).1]
    have := d.step l.im _ L.ltA hx'
    simp only [exOne, exOp, Option.map_some, Option.some.injEq] at this
    rw [← this]
    simp [Env.get]
  have junkM : listed.getD l.iv true = true → t.env.get l.tM = .junk := by
    intro h
    have hx' : (zs.map XO.unlit)[l.iv]? = some ⟨some l.tM, .junk, none⟩ := by rw [List.getElem?_map, L.xM]; rfl
    rw [(p.done l.iv _ l.tM L.ltM hx' rfl h).1]
    have := d.step l.iv _ L.ltM hx'
    simp only [exOne, exOp, Option.map_some, Option.some.injEq] at this
    rw [← this]
    simp [Env.get]
  obtain ⟨x, hx, htro⟩ := htr i o ho
  obtain ⟨n1, n2, n3, n4, n5, n6, n7, n8, n9, n10, n11⟩ := L.ne
  rcases hsp i hspi with rfl | rfl | rfl | rfl | rfl
  ·
    rw [L.xA] at hx
    cases hx
    obtain ⟨t1, h1, hgo⟩ := lit_next (ro := ro) (o := o) (l := l) d hcall hi hr p hlat L.xA (fun _ _ h => by cases h) hK
    have ht1 : t1 = { t with env := (l.tA, .junk) :: t.env } := by
      simp only [XO.unlit, XOp.unlit, exOne, exOp, Option.map_some, Option.some.injEq] at h1
      exact h1.symm
    subst ht1
    have hex : exOne call t ⟨some l.tA, .makeMap none, none⟩ = some { k := t.k, env := (l.tA, .omap t.mem.length) :: t.env, mem := t.mem ++ [mapObj []] } := rfl
    refine one_wp (x := ⟨some l.tA, .makeMap none, none⟩) hcall htro hlat.rep hNa hex fun E a' hl' hput => ?_
    have hu := hlat.trans (by rw [hlat.k] at hl'; exact hl')
    obtain ⟨F, hw, hF, hB⟩ := under (t := t) (t1 := { t with env := (l.tA, .junk) :: t.env }) (es := []) hu rfl hlat.k.symm htk rfl rfl (fun w => by
      by_cases hw : w = l.tA
      · right; subst hw; simp [Env.get]
      · left; simp [Env.get, hw]) (fun w id hid => by
      by_cases hw : w = l.tA
      · subst hw; simp [Env.get, AV.refs] at hid
      · simp only [Env.get, if_neg hw] at hid; exact hel w id hid) hol (fun p hp => by cases hp)
    rw [← hw]
    have hA : a'.tmps.getD l.tA undef = .map (some (E.σ t.mem.length)) := by
      have := hu.rep.env l.tA
      simp only [Env.get, if_true] at this
      generalize a'.tmps.getD l.tA undef = v at *
      cases this
      rfl
    have hnot : ∀ j, Region.waitsFor .any ops j l.im = true → listed.getD j true = false := fun j hwj => by
      cases hc : listed.getD j true with
      | false => rfl
      | true =>
        have hjs : j < listed.size := by
          obtain ⟨o', ho', _⟩ := Region.waitsFor_spec hwj
          rw [inv.size]; exact (Array.getElem?_eq_some_iff.1 ho').1
        have hcf : listed.getD j false = true := by simp [hjs] at hc ⊢; exact hc
        have := getD_up (up j l.im hwj hcf)
        rw [hun] at this; cases this
    refine hgo F a' hF fun _ => ⟨_, [], hB, hA, fun hv => ?_, ?_⟩
    · rw [set_getD (Ne.symm n3), hnot _ L.wM] at hv; cases hv
    · rw [set_getD (Ne.symm n1), set_getD (Ne.symm n2), hnot _ L.w1, hnot _ L.w2]; rfl
  ·
    rw [L.x1] at hx
    cases hx
    obtain ⟨t1, h1, hgo⟩ := lit_next (ro := ro) (o := o) (l := l) d hcall hi hr p hlat L.x1 (fun _ _ h => by cases h) hK
    have ht1 : t1 = t := by
      simp only [XO.unlit, XOp.unlit, exOne, exOp, Option.map_some, Option.some.injEq] at h1
      exact h1.symm
    subst ht1
    have him := getD_up (ready_waits hr L.w1)
    obtain ⟨b, es, B, hA, hM, hf⟩ := hj him
    rw [hun] at hf
    obtain ⟨Ev, hEw, hov⟩ := over (q := l.tA) hlat B hA
    have hex : exOne call (ov t1 l.tA es) ⟨none, .mapSet 1 (.t l.tA) (.c (.bool true)) (.c l.y), none⟩ = some { ov t1 l.tA es with mem := t1.mem ++ [mapObj (es ++ [(.bool true, l.y)])] } := by
      have hg : (ov t1 l.tA es).mem[t1.mem.length]? = some (mapObj es) := by simp [ov]
      have hfd := fills_find1 hf (ov t1 l.tA es).mem
      have hset : (ov t1 l.tA es).mem.set t1.mem.length (mapObj (es ++ [(.bool true, l.y)])) = t1.mem ++ [mapObj (es ++ [(.bool true, l.y)])] := by simp [ov, List.set_append]
      have he : (ov t1 l.tA es).env.ev (.t l.tA) = .omap t1.mem.length := by simp [ov, Env.ev, Env.get]
      have hc1 : (ov t1 l.tA es).env.ev (.c (.bool true)) = .imm (.val (.bool true)) := rfl
      have hc2 : (ov t1 l.tA es).env.ev (.c l.y) = .imm (.val l.y) := rfl
      rw [mapObj] at hg
      rw [← hset]
      simp only [exOne, exOp, he, hc1, hc2, isKeyAV, if_true, hg, hfd, Option.map_some, mapObj, List.map_append, List.map_cons, List.map_nil]
    rw [← hEw]
    refine one_wp (x := ⟨none, .mapSet 1 (.t l.tA) (.c (.bool true)) (.c l.y), none⟩) hcall htro hov.rep hNa hex fun E a' hl' hput => ?_
    have hu := hov.trans (by rw [hov.k] at hl'; exact hl')
    have hf2 := fills_push1 hf
    obtain ⟨F, hw, hF, hB⟩ := under (t := t1) (t1 := t1) (es := es ++ [(.bool true, l.y)]) hu rfl rfl htk rfl rfl (fun w => by
      by_cases hw : w = l.tA
      · right; subst hw; exact junkA him
      · left; simp [ov, Env.get, hw]) hel hol (fills_one L.hy L.hn hf2)
    rw [← hw]
    have hA' : a'.tmps.getD l.tA undef = .map (some (E.σ t1.mem.length)) := by
      have := hu.rep.env l.tA
      simp only [ov, Env.get, if_true] at this
      generalize a'.tmps.getD l.tA undef = v at *
      cases this
      rfl
    obtain ⟨vv, hput⟩ := hput
    have hAA : a'.tmps.getD l.tA undef = a.tmps.getD l.tA undef := by rw [hput]; exact put_getD a _ _ _ _ (by rw [← (trOper_spec htro).2.2.1]; intro h; cases h)
    have hb : b = E.σ t1.mem.length := by rw [hAA, hA] at hA'; cases hA'; rfl
    refine hgo F a' hF fun _ => ⟨_, _, hB, hA', fun hv => ?_, ?_⟩
    · rw [set_getD (Ne.symm n6)] at hv
      rw [hput, put_getD a _ _ _ _ (by rw [← (trOper_spec htro).2.2.1]; intro h; cases h), hM hv, hb]
    · rw [set_getD_self, set_getD (Ne.symm n5)]; exact hf2
  ·
    rw [L.x2] at hx
    cases hx
    obtain ⟨t1, h1, hgo⟩ := lit_next (ro := ro) (o := o) (l := l) d hcall hi hr p hlat L.x2 (fun _ _ h => by cases h) hK
    have ht1 : t1 = t := by
      simp only [XO.unlit, XOp.unlit, exOne, exOp, Option.map_some, Option.some.injEq] at h1
      exact h1.symm
    subst ht1
    have him := getD_up (ready_waits hr L.w2)
    obtain ⟨b, es, B, hA, hM, hf⟩ := hj him
    rw [hun] at hf
    obtain ⟨Ev, hEw, hov⟩ := over (q := l.tA) hlat B hA
    have hex : exOne call (ov t1 l.tA es) ⟨none, .mapSet 1 (.t l.tA) (.c (.bool false)) (.c l.n), none⟩ = some { ov t1 l.tA es with mem := t1.mem ++ [mapObj (es ++ [(.bool false, l.n)])] } := by
      have hg : (ov t1 l.tA es).mem[t1.mem.length]? = some (mapObj es) := by simp [ov]
      have hfd := fills_find2 hf (ov t1 l.tA es).mem
      have hset : (ov t1 l.tA es).mem.set t1.mem.length (mapObj (es ++ [(.bool false, l.n)])) = t1.mem ++ [mapObj (es ++ [(.bool false, l.n)])] := by simp [ov, List.set_append]
      have he : (ov t1 l.tA es).env.ev (.t l.tA) = .omap t1.mem.length := by simp [ov, Env.ev, Env.get]
      have hc1 : (ov t1 l.tA es).env.ev (.c (.bool false)) = .imm (.val (.bool false)) := rfl
      have hc2 : (ov t1 l.tA es).env.ev (.c l.n) = .imm (.val l.n) := rfl
      rw [mapObj] at hg
      rw [← hset]
      simp only [exOne, exOp, he, hc1, hc2, isKeyAV, if_true, hg, hfd, Option.map_some, mapObj, List.map_append, List.map_cons, List.map_nil]
    rw [← hEw]
    refine one_wp (x := ⟨none, .mapSet 1 (.t l.tA) (.c (.bool false)) (.c l.n), none⟩) hcall htro hov.rep hNa hex fun E a' hl' hput => ?_
    have hu := hov.trans (by rw [hov.k] at hl'; exact hl')
    have hf2 := fills_push2 hf
    obtain ⟨F, hw, hF, hB⟩ := under (t := t1) (t1 := t1) (es := es ++ [(.bool false, l.n)]) hu rfl rfl htk rfl rfl (fun w => by
      by_cases hw : w = l.tA
      · right; subst hw; exact junkA him
      · left; simp [ov, Env.get, hw]) hel hol (fills_one L.hy L.hn hf2)
    rw [← hw]
    have hA' : a'.tmps.getD l.tA undef = .map (some (E.σ t1.mem.length)) := by
      have := hu.rep.env l.tA
      simp only [ov, Env.get, if_true] at this
      generalize a'.tmps.getD l.tA undef = v at *
      cases this
      rfl
    obtain ⟨vv, hput⟩ := hput
    have hAA : a'.tmps.getD l.tA undef = a.tmps.getD l.tA undef := by rw [hput]; exact put_getD a _ _ _ _ (by rw [← (trOper_spec htro).2.2.1]; intro h; cases h)
    have hb : b = E.σ t1.mem.length := by rw [hAA, hA] at hA'; cases hA'; rfl
    refine hgo F a' hF fun _ => ⟨_, _, hB, hA', fun hv => ?_, ?_⟩
    · rw [set_getD (Ne.symm n8)] at hv
      rw [hput, put_getD a _ _ _ _ (by rw [← (trOper_spec htro).2.2.1]; intro h; cases h), hM hv, hb]
    · rw [set_getD n5, set_getD_self]; exact hf2
  ·
    rw [L.xM] at hx
    cases hx
    obtain ⟨t1, h1, hgo⟩ := lit_next (ro := ro) (o := o) (l := l) d hcall hi hr p hlat L.xM (fun _ _ h => by cases h) hK
    have ht1 : t1 = { t with env := (l.tM, .junk) :: t.env } := by
      simp only [XO.unlit, XOp.unlit, exOne, exOp, Option.map_some, Option.some.injEq] at h1
      exact h1.symm
    subst ht1
    have him := getD_up (ready_waits hr L.wM)
    have hi1 := getD_up (ready_waits hr L.wM1)
    have hi2 := getD_up (ready_waits hr L.wM2)
    obtain ⟨b, es, B, hA, hM, hf⟩ := hj him
    obtain ⟨Ev, hEw, hov⟩ := over (q := l.tA) hlat B hA
    have hex : exOne call (ov t l.tA es) ⟨some l.tM, .mv (.t l.tA), none⟩ = some { ov t l.tA es with env := (l.tM, .omap t.mem.length) :: (ov t l.tA es).env } := by
      simp [exOne, exOp, ov, Env.ev, Env.get]
    rw [← hEw]
    refine one_wp (x := ⟨some l.tM, .mv (.t l.tA), none⟩) hcall htro hov.rep hNa hex fun E a' hl' hput => ?_
    have hu := hov.trans (by rw [hov.k] at hl'; exact hl')
    obtain ⟨F, hw, hF, hB⟩ := under (t := t) (t1 := { t with env := (l.tM, .junk) :: t.env }) (es := es) hu rfl rfl htk rfl rfl (fun w => by
      by_cases hw : w = l.tM
      · right; subst hw; simp [Env.get]
      · by_cases hw2 : w = l.tA
        · right; subst hw2; simp only [Env.get, if_neg n11]; exact junkA him
        · left; simp [ov, Env.get, hw, hw2]) (fun w id hid => by
      by_cases hw : w = l.tM
      · subst hw; simp [Env.get, AV.refs] at hid
      · simp only [Env.get, if_neg hw] at hid; exact hel w id hid) hol (fills_one L.hy L.hn hf)
    rw [← hw]
    have hA' : a'.tmps.getD l.tA undef = .map (some (E.σ t.mem.length)) := by
      have := hu.rep.env l.tA
      simp only [ov, Env.get, if_neg n11, if_true] at this
      generalize a'.tmps.getD l.tA undef = v at *
      cases this
      rfl
    have hM' : a'.tmps.getD l.tM undef = .map (some (E.σ t.mem.length)) := by
      have := hu.rep.env l.tM
      simp only [ov, Env.get, if_true] at this
      generalize a'.tmps.getD l.tM undef = v at *
      cases this
      rfl
    refine hgo F a' hF fun _ => ⟨_, _, hB, hA', fun _ => hM', ?_⟩
    rw [set_getD n6, set_getD n8]; exact hf
  ·
    rw [L.xL] at hx
    cases hx
    obtain ⟨t1, h1, hgo⟩ := lit_next (ro := ro) (o := o) (l := l) d hcall hi hr p hlat L.xL (fun _ _ h => by cases h) hK
    have him := getD_up (up l.iv l.im L.wM (ready_waits hr L.wL))
    have hiv' := ready_waits hr L.wL
    have hiv := getD_up hiv'
    have hi1 := getD_up (up _ _ L.wM1 hiv')
    have hi2 := getD_up (up _ _ L.wM2 hiv')
    obtain ⟨b, es, B, hA, hM, hf⟩ := hj him
    rw [hi1, hi2] at hf
    obtain ⟨Ev, hEw, hov⟩ := over (q := l.tM) hlat B (hM hiv)
    obtain ⟨tt, hkey, ht1⟩ : ∃ tt, t.env.ev kS = .imm (.val (.bool tt)) ∧ t1 = { t with env := (tL, .imm (.val (if tt then l.y else l.n))) :: t.env } := by
      simp only [XO.unlit, XOp.unlit, exOne, exOp, Option.map_eq_some_iff] at h1
      obtain ⟨vv, h2, h3⟩ := h1
      split at h2
      · rename_i tt hk
        cases h2
        exact ⟨tt, hk, by rw [← h3]; cases tt <;> rfl⟩
      · cases h2
    subst ht1
    obtain ⟨j, hfd, pp, hpp, hp2⟩ := fills_get hf (ov t l.tM es).mem tt
    have hkov : (ov t l.tM es).env.ev kS = .imm (.val (.bool tt)) := by
      cases kS with
      | t u =>
        have hu : u ≠ l.tM := by
          intro e
          subst e
          simp only [Env.ev] at hkey
          rw [junkM hiv] at hkey; cases hkey
        simp only [Env.ev, ov, Env.get, if_neg hu] at hkey ⊢
        exact hkey
      | c v => exact hkey
      | f g => cases hkey
    have hex : exOne call (ov t l.tM es) ⟨some tL, .lookup 1 z false (.t l.tM) kS false, none⟩ = some { ov t l.tM es with env := (tL, .imm (.val (if tt then l.y else l.n))) :: (ov t l.tM es).env } := by
      have hg : (ov t l.tM es).mem[t.mem.length]? = some (.map (es.map fun p => (AV.imm (.val p.1), AV.imm (.val p.2)))) := by simp [ov, mapObj]
      have he : (ov t l.tM es).env.ev (.t l.tM) = .omap t.mem.length := by simp [ov, Env.ev, Env.get]
      simp only [exOne, exOp, he, hkov, isKeyAV, if_true]
      rw [hg]
      simp only [hfd, hpp, Option.map_some, hp2]
      rfl
    rw [← hEw]
    refine one_wp (x := ⟨some tL, .lookup 1 z false (.t l.tM) kS false, none⟩) hcall htro hov.rep hNa hex fun E a' hl' hput => ?_
    have hu := hov.trans (by rw [hov.k] at hl'; exact hl')
    obtain ⟨vv, hput⟩ := hput
    have hdst : o.dst = some tL := (trOper_spec htro).2.2.1.symm
    have hx1 : (zs.map XO.unlit)[l.il]? = some ⟨some tL, .pick kS (.c l.y) (.c l.n), none⟩ := by rw [List.getElem?_map, L.xL]; rfl
    have hxA : (zs.map XO.unlit)[l.im]? = some ⟨some l.tA, .junk, none⟩ := by rw [List.getElem?_map, L.xA]; rfl
    have hxM : (zs.map XO.unlit)[l.iv]? = some ⟨some l.tM, .junk, none⟩ := by rw [List.getElem?_map, L.xM]; rfl
    have hLA : tL ≠ l.tA := by
      intro e
      rcases (d.one l.il l.im _ _ l.tA L.ltL L.ltA hx1 hxA rfl).1 with h | h
      · exact n4 h.symm
      · exact h (by rw [e])
    have hLM : tL ≠ l.tM := by
      intro e
      rcases (d.one l.il l.iv _ _ l.tM L.ltL L.ltM hx1 hxM rfl).1 with h | h
      · exact n10 h.symm
      · exact h (by rw [e])
    obtain ⟨F, hw, hF, hB⟩ := under (t := t) (t1 := { t with env := (tL, .imm (.val (if tt then l.y else l.n))) :: t.env }) (es := es) hu rfl rfl htk rfl rfl (fun w => by
      by_cases hw : w = tL
      · left; subst hw; simp [Env.get]
      · by_cases hw2 : w = l.tM
        · right; subst hw2; simp only [Env.get, if_neg (Ne.symm hLM)]; exact junkM hiv
        · left; simp [ov, Env.get, hw, hw2]) (fun w id hid => by
      by_cases hw : w = tL
      · subst hw; simp [Env.get, AV.refs] at hid
      · simp only [Env.get, if_neg hw] at hid; exact hel w id hid) hol (fills_one L.hy L.hn hf)
    rw [← hw]
    have hAA : a'.tmps.getD l.tA undef = .map (some b) := by rw [hput, put_getD a _ _ _ _ (by rw [hdst]; intro h; cases h; exact hLA rfl)]; exact hA
    have hMM : a'.tmps.getD l.tM undef = .map (some b) := by rw [hput, put_getD a _ _ _ _ (by rw [hdst]; intro h; cases h; exact hLM rfl)]; exact hM hiv
    have hM' : a'.tmps.getD l.tM undef = .map (some (E.σ t.mem.length)) := by
      have := hu.rep.env l.tM
      simp only [ov, Env.get, if_neg (Ne.symm hLM), if_true] at this
      generalize a'.tmps.getD l.tM undef = v at *
      cases this
      rfl
    have hb : b = E.σ t.mem.length := by rw [hMM] at hM'; cases hM'; rfl
    subst hb
    refine hgo F a' hF fun _ => ⟨_, _, hB, hAA, fun _ => hMM, ?_⟩
    rw [set_getD n7, set_getD n9, hi1, hi2]; exact hf
end
end Go.EX


set_option linter.unusedVariables false
set_option linter.unusedSimpArgs false
namespace Go.EX
section
variable {num : Names} {P : Program}
theorem trOps_lit {call : Calls'} {N : Nat} {ops : Array Oper} : ∀ (l : List Oper) (zs : List XO) {s s' : St}, trOps P num N ops l = zs.map XO.wipe → exOps call s (zs.map XO.unlit) = some s' → ∀ (i : Nat) (o : Oper), l[i]? = some o → ∃ x : XO, zs[i]? = some x ∧ trOper P num N ops o = some x.wipe
  | [], _, _, _, _, _, i, o, ho => by simp at ho
  | o :: l, zs, s, s', htr, h, i, o', hi => by
    simp only [trOps] at htr
    cases ho : trOper P num N ops o with
    | none =>
      rw [ho] at htr
      cases zs with
      | nil => simp at htr
      | cons x r =>
        simp only [List.map_cons, List.cons.injEq] at htr
        have hb : x.wipe = badOp := htr.1.symm
        have h1 : x.op = .callV (.c (.bool true)) [] ∧ x.guard = none := by
          obtain ⟨d, op, g⟩ := x
          simp only [XO.wipe, badOp, XO.mk.injEq] at hb
          obtain ⟨_, h2, h3⟩ := hb
          refine ⟨?_, h3⟩
          cases op <;> simp only [XOp.wipe, reduceCtorEq] at h2
          exact h2
        simp only [List.map_cons, exOps] at h
        unfold exOne at h
        simp only [XO.unlit, h1.1, h1.2, XOp.unlit, exOp, Env.ev, Option.map_none, Option.bind_none] at h
        cases h
    | some y =>
      rw [ho] at htr
      cases zs with
      | nil => simp at htr
      | cons x r =>
        simp only [List.map_cons, List.cons.injEq] at htr
        simp only [List.map_cons, exOps] at h
        cases hx : exOne call s x.unlit with
        | none => rw [hx] at h; cases h
        | some s1 =>
          rw [hx] at h
          cases i with
          | zero =>
            simp at hi
            subst hi
            exact ⟨x, rfl, by rw [ho, htr.1]⟩
          | succ i => exact trOps_lit l r htr.2 h i o' (by simpa using hi)
theorem unlit_not {x : XO} (h : (!(x.op.isLitA || x.op.isLitI || x.op.isLitM || x.op.isLitL)) = true) : x.unlit = x := by
  obtain ⟨d, op, g⟩ := x
  cases op <;> first | rfl | simp [XOp.isLitA, XOp.isLitI, XOp.isLitM, XOp.isLitL] at h
theorem lit_spec {l : LitAt} {ops : Array Oper} {zs : List XO} {n : Nat} (h : l.ok ops zs n = true) : (∃ z k tL, LitSpec l ops zs n z k tL) ∧ (∀ i x, i < n → zs[i]? = some x → (i ≠ l.im ∧ i ≠ l.i1 ∧ i ≠ l.i2 ∧ i ≠ l.iv ∧ i ≠ l.il) → x.unlit = x) ∧ ∀ i x, n ≤ i → zs[i]? = some x → x.unlit = x := by
  unfold LitAt.ok at h
  simp only [Bool.and_eq_true] at h
  obtain ⟨⟨⟨⟨⟨⟨h1, h2⟩, h3⟩, h4⟩, h5⟩, h6⟩, h7⟩ := h
  refine ⟨?_, fun i x hi hx hne => ?_, fun i x hi hx => ?_⟩
  · split at h1
    · rename_i a b c1 d c2 f g t2 zz hh kk yy nn eA e1 e2 eM eL
      simp only [Bool.and_eq_true, beq_iff_eq] at h1
      obtain ⟨⟨⟨⟨⟨rfl, rfl⟩, rfl⟩, rfl⟩, rfl⟩, rfl⟩ := h1
      rw [e1, e2, eL] at h2
      simp only [Bool.and_eq_true] at h2
      obtain ⟨⟨o1, o2⟩, ⟨⟨v1, v2⟩, v3⟩, v4⟩ := h2
      have q1 := vsame_eq v1
      have q2 := vsame_eq v2
      have q3 := vsame_eq v3
      have q4 := vsame_eq v4
      subst q1 q2
      rw [q3, q4] at eL
      simp only [decide_eq_true_eq] at h3
      simp only [bne_iff_ne] at h4
      simp only [oneCell_eq] at o1 o2
      obtain ⟨⟨⟨⟨r1, r2⟩, r3⟩, r4⟩, r5⟩ := h3
      obtain ⟨⟨⟨⟨⟨⟨⟨⟨⟨⟨s1, s2⟩, s3⟩, s4⟩, s5⟩, s6⟩, s7⟩, s8⟩, s9⟩, s10⟩, s11⟩ := h4
      obtain ⟨⟨⟨⟨⟨w1, w2⟩, w3⟩, w4⟩, w5⟩, w6⟩ := h5
      exact ⟨_, _, _, eA, e1, e2, eM, eL, o1, o2, r1, r2, r3, r4, r5, ⟨s1, s2, s3, s4, s5, s6, s7, s8, s9, s10, s11⟩, w1, w2, w3, w4, w5, w6⟩
    · cases h1
  · have := List.all_eq_true.1 h6 i (List.mem_range.2 hi)
    simp only [Bool.or_eq_true, beq_iff_eq, hx] at this
    obtain ⟨m1, m2, m3, m4, m5⟩ := hne
    rcases this with ((((h | h) | h) | h) | h) | h
    · exact absurd h m1
    · exact absurd h m2
    · exact absurd h m3
    · exact absurd h m4
    · exact absurd h m5
    · exact unlit_not h
  · refine unlit_not (List.all_eq_true.1 h7 x (List.mem_of_getElem? (i := i - n) ?_))
    rw [List.getElem?_drop, ← hx]
    congr 1; omega
theorem lregion_wp {ro : Option Nat} {call : Calls'} (hcall : CallOK num P call) (hmix : P.follows .mixedOrders = true) {N id : Nat} {ops : Array Oper} {draw : Bool} {keep : List Nat} {zs : List XO} (htr : trOps P num N ops ops.toList = zs.map XO.wipe) (hd : drawsOk (.region id ops draw) (.lregion keep zs) = true) {C : Cx} {s s' : St} {a : Act} (hs : SRep num C s a) (hN : N ≤ a.tmps.size) (h : exOps call s (zs.map XO.unlit) = some s')
    {Q : Exit → Act → World → Prop} (hQ : ∀ D a', Later num s.k C s.mem a D s' a' → Q .normal a' D.w) : (Code.region id ops draw).wpIn (fz ro) 0 P Q a C.w := by
  cases draw with
  | false => simp [drawsOk] at hd
  | true =>
    simp only [drawsOk, litOk, Bool.and_eq_true, beq_iff_eq, decide_eq_true_eq] at hd
    obtain ⟨⟨⟨hok, hlt⟩, hlit⟩, hlen⟩ := hd
    generalize calmRun (zs.map XO.unlit) = n at hok hlt hlit
    obtain ⟨⟨z, kS, tL, L⟩, hin, hout⟩ := lit_spec hlit
    generalize litAt zs = l at L hin hlit
    simp only [drawOk, Bool.and_eq_true] at hok
    obtain ⟨⟨⟨⟨k1, k2⟩, k3⟩, k4⟩, k5⟩ := hok
    have htail : n = ops.size ∨ (n < ops.size ∧ Region.sinkB .any ops n = true ∧ Region.chainB .any ops n = true) := by
      simp only [Bool.or_eq_true, beq_iff_eq, Bool.and_eq_true, decide_eq_true_eq] at k4
      rcases k4 with h | ⟨⟨h, h'⟩, h''⟩
      · exact .inl h
      · exact .inr ⟨h, h', h''⟩
    have hn' : n ≤ ops.size := by omega
    have hall := fun i o ho => trOps_lit ops.toList zs htr h i o ho
    have hS : ∀ i, ∃ t, exOps call s ((zs.map XO.unlit).take i) = some t ∧ exOps call t ((zs.map XO.unlit).drop i) = some s' := exOps_split _ s s' h
    obtain ⟨S, hS⟩ : ∃ S : Nat → St, ∀ i, exOps call s ((zs.map XO.unlit).take i) = some (S i) ∧ exOps call (S i) ((zs.map XO.unlit).drop i) = some s' := ⟨fun i => Classical.choose (hS i), fun i => Classical.choose_spec (hS i)⟩
    have go : ∀ (i : Nat) x, (zs.map XO.unlit)[i]? = some x → exOne call (S i) x = some (S (i + 1)) := by
      intro i x hx
      have e1 := (hS i).1
      have e2 := (hS (i + 1)).1
      have : (zs.map XO.unlit).take (i + 1) = (zs.map XO.unlit).take i ++ [x] := by
        rw [List.take_add_one, hx]; rfl
      rw [this] at e2
      exact exOps_snoc _ x s _ _ e1 e2
    have d : Drawn call P num N ops (zs.map XO.unlit) n s s' S (fun i => i == l.im || i == l.i1 || i == l.i2 || i == l.iv || i == l.il) := by
      refine ⟨by simpa using hlen, hn', fun i o hsp ho => ?_, ?_, ?_, ?_, ?_, go, ?_, fun i x _ hx => go i x hx, ?_⟩
      · obtain ⟨x, hx, htx⟩ := hall i o (by simpa using ho)
        simp only [Bool.or_eq_false_iff, beq_eq_false_iff_ne] at hsp
        have hux : x.unlit = x := by
          rcases Nat.lt_or_ge i n with h1 | h1
          · exact hin i x h1 hx ⟨hsp.1.1.1.1, hsp.1.1.1.2, hsp.1.1.2, hsp.1.2, hsp.2⟩
          · exact hout i x h1 hx
        exact ⟨x, by rw [List.getElem?_map, hx]; simp [hux], htx⟩
      · intro i x hi hx
        refine List.all_eq_true.1 k1 x (List.mem_of_getElem? (i := i) ?_)
        rw [List.getElem?_take, if_pos hi]; exact hx
      · intro i j x y d hi hj hx hy hyd
        have := List.all_eq_true.1 (List.all_eq_true.1 k2 i (List.mem_range.2 hi)) j (List.mem_range.2 hj)
        simp only [hx, hy, hyd, Bool.and_eq_true, Bool.or_eq_true, beq_iff_eq, bne_iff_ne, Bool.not_eq_true', List.contains_eq_mem, decide_eq_false_iff_not, decide_eq_true_eq] at this
        refine ⟨this.1, fun hr => ?_⟩
        rcases this.2 with h | h
        · exact absurd hr h
        · exact h
      · intro i o hi ho e he hb
        have := List.all_eq_true.1 k3 i (List.mem_range.2 hi)
        simp only [ho] at this
        have := Array.all_eq_true_iff_forall_mem.1 this e he
        simpa [hb] using this
      · have := (hS 0).1
        simp [exOps] at this
        exact this.symm
      · have := (hS (zs.map XO.unlit).length).2
        rw [List.drop_eq_nil_of_le (Nat.le_refl _)] at this
        simp only [exOps, Option.some.injEq] at this
        exact this
      · exact (hS n).2
    refine wpIn_region_any hmix ?_
    have h0 := draw_later hs
    have h1 := room_later h0.rep ((S n).mem.length - s.mem.length)
    have hspec : ∀ i, (fun i => i == l.im || i == l.i1 || i == l.i2 || i == l.iv || i == l.il) i = true → i = l.im ∨ i = l.i1 ∨ i = l.i2 ∨ i = l.iv ∨ i = l.il := by
      intro i hi
      simp only [Bool.or_eq_true, beq_iff_eq] at hi
      rcases hi with (((h | h) | h) | h) | h
      · exact .inl h
      · exact .inr (.inl h)
      · exact .inr (.inr (.inl h))
      · exact .inr (.inr (.inr (.inl h)))
      · exact .inr (.inr (.inr (.inr h)))
    have hxA : (zs.map XO.unlit)[l.im]? = some ⟨some l.tA, .junk, none⟩ := by rw [List.getElem?_map, L.xA]; rfl
    have hxM : (zs.map XO.unlit)[l.iv]? = some ⟨some l.tM, .junk, none⟩ := by rw [List.getElem?_map, L.xM]; rfl
    have := d.anyJ (ro := ro) (fun i hi => by
        simp only [Bool.or_eq_false_iff, beq_eq_false_iff_ne]
        have := L.ltA; have := L.lt1; have := L.lt2; have := L.ltM; have := L.ltL
        refine ⟨⟨⟨⟨?_, ?_⟩, ?_⟩, ?_⟩, ?_⟩ <;> omega) htail k5 hcall (Q := Q) (k := s.k) (C := C) (m := s.mem) (a0 := a) hN hQ (LJ l C s.mem)
      (fun listed D t a i x E t1 a' F t2 hi hsp hun hx hj hl1 hput hl2 him => by
        simp only [Bool.or_eq_false_iff, beq_eq_false_iff_ne] at hsp
        obtain ⟨⟨⟨⟨m1, m2⟩, m3⟩, m4⟩, m5⟩ := hsp
        rw [set_getD (Ne.symm m1)] at him
        obtain ⟨b, es, B, hA, hM, hf⟩ := hj him
        obtain ⟨v, hput⟩ := hput
        have dA : x.dst ≠ some l.tA := by
          rcases (d.one i l.im x _ l.tA hi L.ltA hx hxA rfl).1 with h | h
          · exact absurd h m1
          · exact h
        have dM : x.dst ≠ some l.tM := by
          rcases (d.one i l.iv x _ l.tM hi L.ltM hx hxM rfl).1 with h | h
          · exact absurd h m4
          · exact h
        refine ⟨b, es, (B.keep hl1.step).keep hl2.step, by rw [hput, put_getD _ _ _ _ _ dA]; exact hA, fun hv => ?_, ?_⟩
        · rw [set_getD (Ne.symm m4)] at hv
          rw [hput, put_getD _ _ _ _ _ dM]; exact hM hv
        · rw [set_getD (Ne.symm m2), set_getD (Ne.symm m3)]; exact hf)
      (fun listed D t a i o hi hsp inv hr ho p hlat hj K hK => lit_wp (ro := ro) L d hspec (fun i o ho => hall i o (by simpa using ho)) hcall hN listed D t a i o hi hsp inv hr ho p hlat hj K hK)
      n (Array.replicate ops.size false) a _ _ (replicate_left n ops.size hn')
      ⟨by simp, fun j oj _ hl => (by rw [getD_replicate_false] at hl; cases hl), fun t ht h2 => getD_in (by simpa using h2) (getD_replicate_false _ _)⟩
      (d.start h0.rep) (h0.trans h1) (fun him => by
        rw [getD_in (by have := L.ltA; simp; omega) (getD_replicate_false _ _)] at him; cases him)
    rw [show n + (ops.size - n) = ops.size by omega] at this
    exact this
end
end Go.EX

