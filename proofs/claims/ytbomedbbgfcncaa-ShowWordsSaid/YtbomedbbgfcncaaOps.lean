/-
  EX: each operation does in a world what the interpreter says.
-/
import Derived.Test.YtbomedbbgfcncaaMem
import GoSem.Dispatch
import Derived.Laws.Slices
import Derived.Laws.Strings
set_option linter.unusedVariables false
set_option linter.unusedSimpArgs false
namespace Go.EX

section
variable {num : FuncId → Nat} {P : Program}

/-- The state of the interpreter stands for an activation in a world. -/
structure SRep (num : FuncId → Nat) (C : Cx) (s : St) (a : Act) : Prop where
  mem : MRep num C s.mem
  env : ERep num C s.env a.tmps
  k : s.k ≤ s.mem.length

/-- The operation yields a value that stands for x, in a world of which s' speaks. -/
def Yields (num : FuncId → Nat) (P : Program) (op : Op) (ty : TypeId) (pos : String) (after : Array Edge) (a : Act) (C : Cx) (s : St) (x : AV) (s' : St) : Prop :=
  ∃ v D, (∀ dst g, (execOp a.eval ⟨dst, op, ty, pos, after, g⟩).run P C.w = .ok (.value v) D.w ∨ ((execOp a.eval ⟨dst, op, ty, pos, after, g⟩).run P C.w = .ok .skip D.w ∧ v = undef)) ∧
    Step num s.k C s.mem D s'.mem ∧ ERep num D s'.env a.tmps ∧ ARep num D x v ∧ s'.k = s.k

variable {ty : TypeId} {pos : String} {after : Array Edge} {a : Act} {C : Cx} {s : St}

theorem yields_pure (hs : SRep num C s a) {op : Op} {v : Value} (h : ∀ dst g, (execOp a.eval ⟨dst, op, ty, pos, after, g⟩).run P C.w = .ok (.value v) C.w) {x : AV} (hx : ARep num C x v) :
    Yields num P op ty pos after a C s x s := ⟨v, C, fun dst g => .inl (h dst g), .refl hs.mem hs.k, hs.env, hx, rfl⟩

theorem src_rep (hs : SRep num C s a) {x : Operand} {y : Src} (h : trSrc num x = some y) : ARep num C (s.env.ev y) (a.eval x) := by
  cases x with
  | tmp t => cases h; exact hs.env t
  | const v =>
    simp only [trSrc] at h
    split at h
    · cases h; rename_i hv; exact .imm _ _ (.val v (by rw [← oneCell_eq]; exact hv))
    · cases h
  | global g => cases h
  | func f => cases h; exact .clo f [] #[] rfl (fun j x u hx _ => by simp at hx)

theorem rep_val {v u : Value} (h : ARep num C (.imm (.val v)) u) : u = v := by
  cases h with | imm _ _ h => cases h with | val => rfl

/-- An operand whose value is known to the interpreter as a plain value. -/
theorem src_val (hs : SRep num C s a) {x : Operand} {y : Src} (h : trSrc num x = some y) {v : Value} (hv : s.env.ev y = .imm (.val v)) : a.eval x = v := by
  have := src_rep hs h
  rw [hv] at this
  exact rep_val this

theorem rep_int {x : AV} {u : Value} (h : ARep num C x u) {i : Int} (hi : intOf x = some i) : ∃ k, u = .int k i ∧ x = .imm (.val (.int k i)) := by
  unfold intOf at hi
  split at hi
  · rename_i k j
    cases hi
    exact ⟨k, rep_val h, rfl⟩
  · cases hi

theorem known_some {t : TypeId} (h : known P t = true) : ∃ i d, P.info? t = some i ∧ P.underlying t = some d ∧ P.cellsOf t = i.size ∧ P.bytesOf t = i.bytes := by
  unfold known at h
  simp only [Bool.and_eq_true, Option.isSome_iff_exists] at h
  obtain ⟨⟨i, hi⟩, d, hd⟩ := h
  exact ⟨i, d, hi, hd, by simp [Program.cellsOf, hi], by simp [Program.bytesOf, hi]⟩

theorem run_typeInfo' {t : TypeId} {i : TypeInfo} (h : P.info? t = some i) (w : World) : (typeInfo t).run P w = .ok i w := by simp [typeInfo, h]
theorem run_sizeOf' {t : TypeId} {i : TypeInfo} (h : P.info? t = some i) (w : World) : (sizeOf t).run P w = .ok i.size w := by simp [sizeOf, typeInfo, h]
theorem run_isAgg' {t : TypeId} {d : TypeDesc} (h : P.underlying t = some d) (w : World) : (isAgg t).run P w = .ok (aggOf P t).isSome w := by
  simp only [isAgg, aggOf, h, Sem.run_bind, run_underlying h, Result.andThen_ok]
  cases d <;> rfl

/-- A value's cells. -/
theorem rep_cells {x : AV} {v : Value} (h : ARep num C x v) {cs : List AV} (hc : x.cells = some cs) :
    cs.length = v.cells.size ∧ (∀ (j : Nat) u, v.cells[j]? = some u → u.oneCell' = true) ∧ ∀ (j : Nat) y u, cs[j]? = some y → v.cells[j]? = some u → ARep num C y u := by
  have one : ∀ (y : AV) (u : Value), u.cells = #[u] → u.oneCell' = true → ARep num C y u → [y].length = u.cells.size ∧ (∀ (j : Nat) u', u.cells[j]? = some u' → u'.oneCell' = true) ∧ ∀ (j : Nat) z u', [y][j]? = some z → u.cells[j]? = some u' → ARep num C z u' := by
    intro y u hu h1 hr
    rw [hu]
    refine ⟨rfl, fun j u' hj => ?_, fun j z u' hz hj => ?_⟩
    · cases j with
      | zero => simp at hj; subst hj; exact h1
      | succ j => simp at hj
    · cases j with
      | zero => simp at hj hz; subst hj hz; exact hr
      | succ j => simp at hj
  cases h with
  | imm y u h =>
    cases hc
    have h1 := h.one
    exact one _ _ (by cases v <;> first | rfl | cases h1) h1 (.imm y v h)
  | osl id off sz len cap c a arr e hid hl hk ha hw hs => cases hc; exact one _ _ rfl rfl (.osl id off sz len cap c a arr e hid hl hk ha hw hs)
  | optr id off hid => cases hc; exact one _ _ rfl rfl (.optr id off hid)
  | clo f caps vs hl h => cases hc; exact one _ _ rfl rfl (.clo f caps vs hl h)
  | omap id hid => cases hc; exact one _ _ rfl rfl (.omap id hid)
  | agg cells vs hl h1 h => cases hc; exact ⟨hl, h1, h⟩
  | tup xs vs hl h => cases hc
  | junk v => cases hc

/-! ### pure operations -/

theorem y_mv (hs : SRep num C s a) {x : Operand} {y : Src} (h : trSrc num x = some y) : Yields num P (.move x) ty pos after a C s (s.env.ev y) s :=
  yields_pure hs (fun _ _ => rfl) (src_rep hs h)

theorem y_assign (hs : SRep num C s a) {x : Operand} {y : Src} (h : trSrc num x = some y) : Yields num P (.assign x) ty pos after a C s (s.env.ev y) s :=
  yields_pure hs (fun _ _ => rfl) (src_rep hs h)

theorem y_pick (hs : SRep num C s a) {x y z : Operand} {x' y' z' : Src} (hx : trSrc num x = some x') (hy : trSrc num y = some y') (hz : trSrc num z = some z') {t : Bool} (ht : s.env.ev x' = .imm (.val (.bool t))) :
    Yields num P (.pick x y z) ty pos after a C s (if t then s.env.ev y' else s.env.ev z') s := by
  have h1 := src_val hs hx ht
  refine yields_pure (v := if t then a.eval y else a.eval z) hs (fun _ _ => ?_) ?_
  · simp [execOp, h1, asBool]
  · cases t
    · exact src_rep hs hz
    · exact src_rep hs hy

theorem run_equalIn_bool (d : Nat) {t : TypeId} (ht : P.underlying t = some .bool) (x y : Bool) (w : World) : (Op.equalIn (d + 1) t (.bool x) (.bool y)).run P w = .ok (x == y) w := by
  simp only [Op.equalIn, Sem.run_bind, run_underlying ht, Result.andThen_ok, Sem.run_pure]

theorem run_equal_bool {t : TypeId} (ht : P.underlying t = some .bool) (x y : Bool) (w : World) : (Op.equal t (.bool x) (.bool y)).run P w = .ok (x == y) w :=
  run_equalIn_bool 9999 ht x y w

theorem run_valBin {op : BinOp} {t : TypeId} {x y v : Value} (h : valBin op x y = some v) (w : World) : (binOp op t x y).run P w = .ok v w := by
  unfold valBin at h
  split at h
  · rename_i k a j b
    split at h
    · simp only [shiftBin] at h
      split at h
      · cases h
      · rename_i hb
        cases h
        simp [binOp, Op.shift, hb]
    · simp only [shiftBin] at h
      split at h
      · cases h
      · rename_i hb
        cases h
        simp [binOp, Op.shift, hb]
    · split at h
      · rename_i hk
        subst hk
        cases op <;> simp only [intBin] at h <;> first
          | (cases h; done)
          | (obtain rfl := Option.some.inj h; simp [binOp, Op.intArith, Op.intBits, Op.intCmp]; done)
          | (split at h <;> first | (cases h; done) | (rename_i hb; obtain rfl := Option.some.inj h; simp [binOp, Op.intDiv, hb]; done))
          | simp_all
      · cases h
  · rename_i a b
    cases op <;> simp only [strBin] at h <;> first
      | (cases h; done)
      | (obtain rfl := Option.some.inj h; simp [binOp, Op.stringOp]; done)
      | (split at h
         · rename_i hb
           obtain rfl := Option.some.inj h
           have : ¬ (((a.size + b.size : Nat) : Int) > IntKind.i64.max) := by simp [IntKind.max, IntKind.signed, IntKind.bits]; omega
           simp only [binOp, Op.stringOp]
           rw [if_neg this]
           rfl
         · cases h)
  · cases h

theorem run_boolBin {op : BinOp} {t : TypeId} {x y v : Value} (h : boolBin op x y = some v) (w : World) (ht : P.underlying t = some .bool) : (binOp op t x y).run P w = .ok v w := by
  unfold boolBin at h
  split at h
  · split at h
    · cases h
      simp [binOp, run_equal_bool ht]
    · cases h
      simp [binOp, run_equal_bool ht]
    · cases h
  · cases h

theorem run_eqGuard_plain {op : BinOp} {t : TypeId} {x y : Operand} {u v : Value} (hu : u.oneCell' = true) (h : u ≠ .nilIface) (w : World) : (eqGuard op t x y u v).run P w = .ok () w := by
  unfold eqGuard
  cases op <;> cases u <;> first | rfl | (cases hu; done) | (exact absurd rfl h) | (cases v <;> rfl)

theorem y_bin (hs : SRep num C s a) {op : BinOp} {t yt : TypeId} {x y : Operand} {x' y' : Src} (hx : trSrc num x = some x') (hy : trSrc num y = some y')
    {u v r : Value} (hu : s.env.ev x' = .imm (.val u)) (hv : s.env.ev y' = .imm (.val v)) (hr : valBin op u v = some r) :
    Yields num P (.binOp op t x y yt) ty pos after a C s (.imm (.val r)) s := by
  have h1 := src_val hs hx hu
  have h2 := src_val hs hy hv
  have hone : u.oneCell' = true ∧ u ≠ .nilIface ∧ r.oneCell' = true := by
    unfold valBin at hr
    split at hr
    · refine ⟨rfl, by simp, ?_⟩
      split at hr
      · simp only [shiftBin] at hr; split at hr <;> cases hr; rfl
      · simp only [shiftBin] at hr; split at hr <;> cases hr; rfl
      · split at hr
        · unfold intBin at hr
          split at hr <;> first | (cases hr; done) | (cases hr; rfl) | (split at hr <;> cases hr; rfl)
        · cases hr
    · refine ⟨rfl, by simp, ?_⟩
      unfold strBin at hr
      split at hr <;> first | (cases hr; done) | (cases hr; rfl) | (split at hr <;> cases hr; rfl)
    · cases hr
  refine yields_pure (v := r) hs (fun _ _ => ?_) (.imm _ _ (.val r hone.2.2))
  simp only [execOp, h1, h2, Sem.run_bind, run_eqGuard_plain hone.1 hone.2.1, Result.andThen_ok]
  rw [run_valBin hr C.w]
  rfl

theorem y_binB (hs : SRep num C s a) {op : BinOp} {t yt : TypeId} {x y : Operand} {x' y' : Src} (hx : trSrc num x = some x') (hy : trSrc num y = some y')
    (ht : P.underlying t = some .bool) {u v r : Value} (hu : s.env.ev x' = .imm (.val u)) (hv : s.env.ev y' = .imm (.val v)) (hr : boolBin op u v = some r) :
    Yields num P (.binOp op t x y yt) ty pos after a C s (.imm (.val r)) s := by
  have h1 := src_val hs hx hu
  have h2 := src_val hs hy hv
  have hone : u.oneCell' = true ∧ u ≠ .nilIface ∧ r.oneCell' = true := by
    unfold boolBin at hr
    split at hr
    · refine ⟨rfl, by simp, ?_⟩
      split at hr <;> cases hr <;> rfl
    · cases hr
  refine yields_pure (v := r) hs (fun _ _ => ?_) (.imm _ _ (.val r hone.2.2))
  simp only [execOp, h1, h2, Sem.run_bind, run_eqGuard_plain hone.1 hone.2.1, Result.andThen_ok]
  rw [run_boolBin hr C.w ht]
  rfl

theorem y_un (hs : SRep num C s a) {op : UnOp} {t : TypeId} {x : Operand} {x' : Src} (hx : trSrc num x = some x') {u r : Value} (hu : s.env.ev x' = .imm (.val u)) (hr : valUn op u = some r) :
    Yields num P (.unOp op t x) ty pos after a C s (.imm (.val r)) s := by
  have h1 := src_val hs hx hu
  have h2 : (Op.unary op u).run P C.w = .ok r C.w ∧ r.oneCell' = true := by
    unfold valUn at hr
    split at hr <;> first | (cases hr; done) | (cases hr; exact ⟨by simp [Op.unary, Op.intArith, Op.intBits], rfl⟩)
  refine yields_pure (v := r) hs (fun _ _ => ?_) (.imm _ _ (.val r h2.2))
  simp only [execOp, h1, Sem.run_bind, h2.1, Result.andThen_ok]
  rfl

theorem y_conv (hs : SRep num C s a) {src dst : TypeId} {j k : IntKind} {x : Operand} {x' : Src} (hx : trSrc num x = some x') (h1 : P.underlying src = some (.int j)) (h2 : P.underlying dst = some (.int k)) {i : Int} (hi : intOf (s.env.ev x') = some i) :
    Yields num P (.convert src dst x) ty pos after a C s (.imm (.val (.int k (k.wrap i)))) s := by
  obtain ⟨kk, hu, _⟩ := rep_int (src_rep hs hx) hi
  refine yields_pure (v := .int k (k.wrap i)) hs (fun _ _ => ?_) (.imm _ _ (.val _ rfl))
  simp [execOp, hu, convert, run_underlying h1, run_underlying h2, Conv.intToInt]

theorem y_convS (hs : SRep num C s a) {src dst : TypeId} {x : Operand} {x' : Src} (hx : trSrc num x = some x') (h1 : P.underlying src = some .string) (h2 : P.underlying dst = some .string) {b : ByteArray} (hb : s.env.ev x' = .imm (.val (.string b))) :
    Yields num P (.convert src dst x) ty pos after a C s (.imm (.val (.string b))) s := by
  have hu := src_val hs hx hb
  refine yields_pure (v := .string b) hs (fun _ _ => ?_) (.imm _ _ (.val _ rfl))
  simp [execOp, hu, convert, run_underlying h1, run_underlying h2]

theorem y_extract (hs : SRep num C s a) {x : Operand} {x' : Src} {i : Nat} (hx : trSrc num x = some x') {vs : List AV} (hv : s.env.ev x' = .tup vs) {y : AV} (hy : vs[i]? = some y) :
    Yields num P (.extract x i) ty pos after a C s y s := by
  have h1 := src_rep hs hx
  rw [hv] at h1
  generalize hu : a.eval x = u at h1
  cases h1 with
  | tup _ us hl h =>
    have hi : i < us.size := by rw [← hl]; exact (List.getElem?_eq_some_iff.1 hy).1
    refine yields_pure (v := us[i]) hs (fun _ _ => ?_) (h i y _ hy (by simp [hi]))
    simp [execOp, hu, Instr.extract, hi]

theorem y_fieldA (hs : SRep num C s a) {t : TypeId} {fs : Array Field} {f : Nat} {fd : Field} {x : Operand} {x' : Src} (hx : trSrc num x = some x') (ht : P.underlying t = some (.struct fs)) (hf : fs[f]? = some fd)
    (hk : known P fd.type = true) (h0 : 0 < P.cellsOf fd.type) {y : AV} (hy : (match s.env.ev x' with | .imm (.ptr row o) => some (AV.imm (.ptr row (o + fd.offset))) | .optr id o => some (.optr id (o + fd.offset)) | _ => none) = some y) :
    Yields num P (.fieldAddr t x f) ty pos after a C s y s := by
  obtain ⟨i, d, hi, hd, hsz, _⟩ := known_some hk
  have h1 := src_rep hs hx
  generalize hu : a.eval x = u at h1
  have hne : ¬ (i.size = 0) := by omega
  have run : ∀ b o, u = .pointer (some ⟨b, o, none⟩) → ∀ dst g, (execOp a.eval ⟨dst, .fieldAddr t x f, ty, pos, after, g⟩).run P C.w = .ok (.value (.pointer (some ⟨b, o + fd.offset, none⟩))) C.w := by
    intro b o hb dst g
    simp [execOp, hu, hb, Instr.fieldAt, run_underlying ht, hf, Instr.sureAddr, fieldPlace, run_sizeOf' hi, hne, addr_add]
  split at hy
  · rename_i row o heq
    cases hy
    rw [heq] at h1
    cases h1 with
    | imm _ _ h => cases h with
      | ptr _ _ b o' u' hb hc hu' =>
        refine yields_pure hs (run b (o' + o) rfl) ?_
        rw [Nat.add_assoc]
        exact .imm _ _ (.ptr row (o + fd.offset) b o' u' hb hc hu')
  · rename_i id o heq
    cases hy
    rw [heq] at h1
    cases h1 with
    | optr _ _ hid => exact yields_pure hs (run (C.σ id) o rfl) (.optr id _ hid)
  · cases hy

theorem y_idxA (hs : SRep num C s a) {t e : TypeId} {x i : Operand} {x' i' : Src} (hx : trSrc num x = some x') (hi : trSrc num i = some i') (ht : P.underlying t = some (.slice e)) (hk : known P e = true)
    {n : Int} (hn : intOf (s.env.ev i') = some n) {y : AV} (hy : (match s.env.ev x' with | .imm (.slice row off len _) => if 0 ≤ n ∧ n < len then some (AV.imm (.ptr row (off + n.toNat * P.cellsOf e))) else none | .osl id off _ len _ => if 0 ≤ n ∧ n < len then some (.optr id (off + n.toNat * P.cellsOf e)) else none | _ => none) = some y) :
    Yields num P (.indexAddr t x i) ty pos after a C s y s := by
  obtain ⟨inf, d, hinf, hd, hsz, _⟩ := known_some hk
  obtain ⟨kk, hie, _⟩ := rep_int (src_rep hs hi) hn
  have h1 := src_rep hs hx
  generalize hu : a.eval x = u at h1
  have run : ∀ b o len c, u = .slice (some ⟨b, o, none⟩) len c → 0 ≤ n → n < len → ∀ dst g, (execOp a.eval ⟨dst, .indexAddr t x i, ty, pos, after, g⟩).run P C.w = .ok (.value (.pointer (some ⟨b, o + n.toNat * P.cellsOf e, none⟩))) C.w := by
    intro b o len c hb h0 h2 dst g
    simp [execOp, hu, hb, hie, Instr.indexAt, asIntOf, run_underlying ht, run_sizeOf' hinf, h0, h2, addr_add, hsz]
  split at hy
  · rename_i row off len cap heq
    split at hy
    · rename_i hb
      cases hy
      rw [heq] at h1
      cases h1 with
      | imm _ _ h => cases h with
        | slice _ _ _ _ b o c ad u' hI hc hu' hl hk' ha =>
          rcases ha with rfl | rfl
          · refine yields_pure hs (run b (o + off) len c rfl hb.1 hb.2) ?_
            rw [Nat.add_assoc]
            exact .imm _ _ (.ptr row _ b o u' hI hc hu')
          · omega
        | vac => omega
    · cases hy
  · rename_i id off sz len cap heq
    split at hy
    · rename_i hb
      cases hy
      rw [heq] at h1
      cases h1 with
      | osl _ _ _ _ _ c ad arr e' hid hl hk' ha hw hs' =>
        rcases ha with rfl | rfl
        · exact yields_pure hs (run (C.σ id) ad len c rfl hb.1 hb.2) (.optr id _ hid)
        · omega
    · cases hy
  · cases hy

theorem y_idxS (hs : SRep num C s a) {t : TypeId} {x i : Operand} {x' i' : Src} (hx : trSrc num x = some x') (hi : trSrc num i = some i') (ht : P.underlying t = some .string)
    {n : Int} (hn : intOf (s.env.ev i') = some n) {b : ByteArray} (hb : s.env.ev x' = .imm (.val (.string b))) (h0 : 0 ≤ n) {c : UInt8} (hc : b[n.toNat]? = some c) :
    Yields num P (.index t x i) ty pos after a C s (.imm (.val (.int .u8 c.toNat))) s := by
  obtain ⟨kk, hie, _⟩ := rep_int (src_rep hs hi) hn
  have hu := src_val hs hx hb
  refine yields_pure (v := .int .u8 c.toNat) hs (fun _ _ => ?_) (.imm _ _ (.val _ rfl))
  simp [execOp, hu, hie, Instr.index, asIntOf, run_underlying ht, h0, hc]

theorem y_nilCheck (hs : SRep num C s a) {x : Operand} {x' : Src} (hx : trSrc num x = some x') (hn : isNil (s.env.ev x') = some false) : Yields num P (.nilCheck x) ty pos after a C s (s.env.ev x') s := by
  have h1 := src_rep hs hx
  refine yields_pure (v := a.eval x) hs (fun _ _ => ?_) h1
  generalize hu : a.eval x = u at h1
  generalize s.env.ev x' = y at h1 hn
  cases h1 with
  | imm z _ h =>
    cases h with
    | val v hv => simp only [isNil] at hn; split at hn <;> simp_all
    | slice => simp [execOp, hu]
    | vac => simp [execOp, hu]
    | ptr => simp [execOp, hu]
  | osl => simp [execOp, hu]
  | optr => simp [execOp, hu]
  | clo => simp [execOp, hu]
  | omap => simp [execOp, hu]
  | agg => simp [isNil] at hn
  | tup => simp [isNil] at hn
  | junk => simp [isNil] at hn

theorem y_lenS (hs : SRep num C s a) {t : TypeId} {x : Operand} {x' : Src} (hx : trSrc num x = some x') (ht : P.underlying t = some .string) {b : ByteArray} (hb : s.env.ev x' = .imm (.val (.string b))) :
    Yields num P (.call { callee := .builtin .len, args := #[x], argTypes := #[t] }) ty pos after a C s (.imm (.val (.int .i64 (b.size : Int)))) s := by
  have hu := src_val hs hx hb
  refine yields_pure (v := .int .i64 (b.size : Int)) hs (fun _ _ => ?_) (.imm _ _ (.val _ rfl))
  simp [execOp, resolve, invoke, builtin, hu, Builtin.len_, run_underlying ht, goInt]

theorem y_len (hs : SRep num C s a) {t e : TypeId} {x : Operand} {x' : Src} (hx : trSrc num x = some x') (he : P.underlying t = some (.slice e)) {n : Nat} (hn : lenOf (s.env.ev x') = some n) :
    Yields num P (.call { callee := .builtin .len, args := #[x], argTypes := #[t] }) ty pos after a C s (.imm (.val (.int .i64 (n : Int)))) s := by
  have h1 := src_rep hs hx
  refine yields_pure (v := .int .i64 (n : Int)) hs (fun _ _ => ?_) (.imm _ _ (.val _ rfl))
  generalize hu : a.eval x = u at h1
  generalize s.env.ev x' = y at h1 hn
  unfold lenOf at hn
  split at hn
  · cases hn
    have := rep_val h1
    subst this
    simp [execOp, resolve, invoke, builtin, hu, Builtin.len_, run_underlying he, goInt]
  · cases hn
    cases h1 with | imm _ _ h => cases h with
      | slice => simp [execOp, resolve, invoke, builtin, hu, Builtin.len_, run_underlying he, goInt]
      | vac => simp [execOp, resolve, invoke, builtin, hu, Builtin.len_, run_underlying he, goInt]
  · cases hn
    cases h1 with
      | osl => simp [execOp, resolve, invoke, builtin, hu, Builtin.len_, run_underlying he, goInt]
  · cases hn

theorem y_cap (hs : SRep num C s a) {t e : TypeId} {x : Operand} {x' : Src} (hx : trSrc num x = some x') (he : P.underlying t = some (.slice e)) {n : Nat} (hn : capOf (s.env.ev x') = some n) :
    Yields num P (.call { callee := .builtin .cap, args := #[x], argTypes := #[t] }) ty pos after a C s (.imm (.val (.int .i64 n))) s := by
  have h1 := src_rep hs hx
  refine yields_pure (v := .int .i64 n) hs (fun _ _ => ?_) (.imm _ _ (.val _ rfl))
  generalize hu : a.eval x = u at h1
  generalize s.env.ev x' = y at h1 hn
  unfold capOf at hn
  split at hn
  · cases hn
    have := rep_val h1
    subst this
    simp [execOp, resolve, invoke, builtin, hu, Builtin.cap_, run_underlying he, goInt]
  · subst hn
    cases h1 with | imm _ _ h => cases h with
      | slice _ _ _ _ b o c ad u' hI hc hu' hl hk' ha => simp [execOp, resolve, invoke, builtin, hu, Builtin.cap_, run_underlying he, goInt, hk' n rfl]
      | vac => simp [execOp, resolve, invoke, builtin, hu, Builtin.cap_, run_underlying he, goInt]
  · subst hn
    cases h1 with
      | osl _ _ _ _ _ c ad arr e' hid hl hk' ha hw hs' => simp [execOp, resolve, invoke, builtin, hu, Builtin.cap_, run_underlying he, goInt, hk' n rfl]
  · cases hn

end
end Go.EX
