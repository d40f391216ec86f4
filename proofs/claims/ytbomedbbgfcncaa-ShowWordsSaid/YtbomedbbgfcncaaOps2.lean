/-
  EX: operations on memory.
-/
import Derived.Test.YtbomedbbgfcncaaOps
set_option linter.unusedVariables false
set_option linter.unusedSimpArgs false
namespace Go.EX

section
variable {num : FuncId → Nat} {P : Program}
variable {ty : TypeId} {pos : String} {after : Array Edge} {a : Act} {C : Cx} {s : St}

/-- What a load finds. -/
def Found (num : FuncId → Nat) (P : Program) (C : Cx) (ad : Addr) (x : AV) : Option Nat → Prop
  | none => ∃ u, C.w.cell? ad = some u ∧ ARep num C x u
  | some n => ∃ vs : Array Value, (loadCells ad n).run P C.w = .ok vs C.w ∧ ARep num C x (.agg vs)

theorem getCells_rep {l : List AV} {b o off : Nat} {agg : Option Nat} {x : AV} (h : CellsAt num C b o l) (hx : getCells agg l off = some x) : Found num P C ⟨b, o + off, none⟩ x agg := by
  cases agg with
  | none =>
    obtain ⟨u, h1, _, h3⟩ := h off x hx
    exact ⟨u, h1, h3⟩
  | some n =>
    simp only [getCells] at hx
    cases hc : cut l off n with
    | none => simp [hc] at hx
    | some r =>
      simp [hc] at hx
      subst hx
      obtain ⟨vs, h1, h2, h3, h4⟩ := load_cells (P := P) h hc
      exact ⟨vs, h1, .agg r vs (by rw [cut_length hc, h2]) h3 h4⟩

theorem run_loadVar {t : TypeId} (hk : known P t = true) {m : Mem} (hm : MRep num C m) {p x : AV} {v : Value} (hp : ARep num C p v) (hx : loadAt m (aggOf P t) p = some x) :
    ∃ b o u, v = .pointer (some ⟨b, o, none⟩) ∧ (loadVar t ⟨b, o, none⟩).run P C.w = .ok u C.w ∧ ARep num C x u := by
  obtain ⟨i, d, hi, hd, hsz, _⟩ := known_some hk
  obtain ⟨b, o, off, l, rfl, hl, hg⟩ := ptr_cells hm hp hx
  have hgr := getCells_rep (P := P) hl hg
  have hag : (isAgg t).run P C.w = .ok (aggOf P t).isSome C.w := run_isAgg' hd C.w
  cases hagg : aggOf P t with
  | none =>
    rw [hagg] at hgr hag
    obtain ⟨u, h1, h2⟩ := hgr
    exact ⟨b, o + off, u, rfl, by simp [loadVar, hag, h1], h2⟩
  | some n =>
    have hn : n = P.cellsOf t := by
      unfold aggOf at hagg
      rw [hd] at hagg
      cases d <;> simp at hagg <;> exact hagg.symm
    rw [hagg] at hgr hag
    obtain ⟨vs, h1, h2⟩ := hgr
    refine ⟨b, o + off, .agg vs, rfl, ?_, h2⟩
    simp only [loadVar, Sem.run_bind, hag, Result.andThen_ok, Option.isSome_some, if_true, run_sizeOf' hi, Sem.run_map]
    rw [← hsz, ← hn, h1]
    rfl

theorem y_load (hs : SRep num C s a) {t : TypeId} {x : Operand} {x' : Src} (hk : known P t = true) (hx : trSrc num x = some x') {y : AV} (hy : loadAt s.mem (aggOf P t) (s.env.ev x') = some y) :
    Yields num P (.load t x) ty pos after a C s y s := by
  have h1 := src_rep hs hx
  obtain ⟨b, o, u, hv, h2, h3⟩ := run_loadVar hk hs.mem h1 hy
  refine yields_pure (v := u) hs (fun _ _ => ?_) h3
  simp [execOp, hv, Instr.loadAt, Instr.sureAddr, h2]

theorem y_field (hs : SRep num C s a) {t : TypeId} {fs : Array Field} {f : Nat} {fd : Field} {x : Operand} {x' : Src} (hx : trSrc num x = some x') (ht : P.underlying t = some (.struct fs)) (hf : fs[f]? = some fd)
    (hk : known P fd.type = true) {cs : List AV} (hc : s.env.ev x' = .agg cs) {y : AV} (hy : getCells (aggOf P fd.type) cs fd.offset = some y) :
    Yields num P (.field t x f) ty pos after a C s y s := by
  obtain ⟨i, d, hi, hd, hsz, _⟩ := known_some hk
  have h1 := src_rep hs hx
  rw [hc] at h1
  generalize hu : a.eval x = u at h1
  cases h1 with
  | agg _ vs hl hone h =>
    have hag : (isAgg fd.type).run P C.w = .ok (aggOf P fd.type).isSome C.w := run_isAgg' hd C.w
    cases hagg : aggOf P fd.type with
    | none =>
      rw [hagg] at hag hy
      simp only [getCells] at hy
      have hi' : fd.offset < vs.size := by rw [← hl]; exact (List.getElem?_eq_some_iff.1 hy).1
      refine yields_pure (v := vs[fd.offset]) hs (fun _ _ => ?_) (h _ y _ hy (by simp [hi']))
      simp [execOp, hu, Instr.field, run_underlying ht, hf, asAgg, part, hag, hi']
    | some n =>
      have hn : n = P.cellsOf fd.type := by
        unfold aggOf at hagg
        rw [hd] at hagg
        cases d <;> simp at hagg <;> exact hagg.symm
      rw [hagg] at hag hy
      simp only [getCells] at hy
      cases hc' : cut cs fd.offset n with
      | none => simp [hc'] at hy
      | some r =>
        simp [hc'] at hy
        subst hy
        have hrl := cut_length hc'
        have hb : n = 0 ∨ fd.offset + n ≤ cs.length := by
          rcases Nat.eq_zero_or_pos n with h0 | h0
          · exact .inl h0
          · right
            have h2 := cut_get hc' (n - 1) (by omega)
            rw [List.getElem?_eq_getElem (l := r) (i := n - 1) (by omega)] at h2
            have := (List.getElem?_eq_some_iff.1 h2).1
            omega
        have hex : ∀ j, j < n → (vs.extract fd.offset (fd.offset + n))[j]? = vs[fd.offset + j]? := by
          intro j hj
          rw [Array.getElem?_extract]
          rw [if_pos (by rcases hb with h0 | h0 <;> omega)]
        refine yields_pure (v := .agg (vs.extract fd.offset (fd.offset + n))) hs (fun _ _ => ?_) ?_
        · simp only [execOp, hu, Instr.field, Sem.run_bind, run_underlying ht, Result.andThen_ok, hf, asAgg, Sem.run_pure, part, hag, Option.isSome_some, if_true, run_sizeOf' hi]
          rw [← hsz, ← hn]
        · have hsize : (vs.extract fd.offset (fd.offset + n)).size = n := by
            rcases hb with rfl | hb
            · simp; omega
            · simp only [Array.size_extract]; omega
          refine .agg r _ (by rw [hrl, hsize]) ?_ ?_
          · intro j u hj
            have hj' : j < n := by rw [← hsize]; exact (Array.getElem?_eq_some_iff.1 hj).1
            rw [hex j hj'] at hj
            exact hone _ u hj
          · intro j y u hy' hj
            have hj' : j < n := by rw [← hsize]; exact (Array.getElem?_eq_some_iff.1 hj).1
            rw [hex j hj'] at hj
            exact h (fd.offset + j) y u (by rw [cut_get hc' j hj']; exact hy') hj

theorem run_equalIn_nil (n : Nat) {t : TypeId} {d : TypeDesc} (ht : P.underlying t = some d) {z : Value} {k : Nat} (hk : nilKind d (.const z) = some k) {x : AV} {v : Value} (hx : ARep num C x v) {b : Bool} (hb : isNilK k x = some b) (w : World) :
    (Op.equalIn (n + 1) t v z).run P w = .ok b w := by
  unfold nilKind at hk
  split at hk <;> cases hk
  all_goals (rename_i heq; cases heq)
  all_goals (unfold isNilK at hb; split at hb <;> first | (cases hb; done) | (rename_i h0; first | (cases h0; done) | skip))
  all_goals (cases hb)
  all_goals first
    | (have := rep_val hx; subst this; simp only [Op.equalIn, Sem.run_bind, run_underlying ht, Result.andThen_ok]; rfl)
    | (cases hx with | imm _ _ h => cases h <;> (simp only [Op.equalIn, Sem.run_bind, run_underlying ht, Result.andThen_ok]; rfl))
    | (cases hx <;> (simp only [Op.equalIn, Sem.run_bind, run_underlying ht, Result.andThen_ok]; rfl))

theorem nil_eqGuard {op : BinOp} {t : TypeId} {d : TypeDesc} {z : Value} {k : Nat} (hk : nilKind d (.const z) = some k) {x y : Operand} {v : Value} (w : World) : (eqGuard op t x y v z).run P w = .ok () w := by
  unfold nilKind at hk
  split at hk <;> cases hk
  all_goals (rename_i heq; cases heq)
  all_goals (unfold eqGuard; cases op <;> first | rfl | (cases v <;> rfl))

theorem y_eqNil (hs : SRep num C s a) {t yt : TypeId} {d : TypeDesc} {x y : Operand} {x' : Src} {neg : Bool} (hx : trSrc num x = some x') (ht : P.underlying t = some d) {k : Nat} (hk : nilKind d y = some k) {b : Bool} (hb : isNilK k (s.env.ev x') = some b) :
    Yields num P (.binOp (if neg then .neq else .eql) t x y yt) ty pos after a C s (.imm (.val (.bool (if neg then !b else b)))) s := by
  have h1 := src_rep hs hx
  obtain ⟨z, rfl⟩ : ∃ z, y = .const z := by
    unfold nilKind at hk
    split at hk <;> first | (cases hk; done) | exact ⟨_, rfl⟩
  have h2 := run_equalIn_nil (P := P) 9999 ht hk h1 hb C.w
  have h3 : (Op.equal t (a.eval x) z).run P C.w = .ok b C.w := h2
  have hb2 : ∀ op : BinOp, (op = .eql ∨ op = .neq) → (binOp op t (a.eval x) z).run P C.w = .ok (.bool (if op = .neq then !b else b)) C.w := by
    intro op hop
    have : ∀ v : Value, (∀ j n, z ≠ .int j n) → (∀ k' n', z ≠ .float k' n') → True := fun _ _ _ => trivial
    unfold nilKind at hk
    split at hk <;> cases hk
    all_goals (rename_i heq; cases heq)
    all_goals (rcases hop with rfl | rfl)
    all_goals (generalize a.eval x = v at h3 ⊢; cases v <;> simp [binOp, h3])
  refine yields_pure (v := .bool (if neg then !b else b)) hs (fun _ _ => ?_) (.imm _ _ (.val _ rfl))
  have hz : a.eval (.const z) = z := rfl
  cases neg
  · simp only [execOp, Sem.run_bind, hz, nil_eqGuard hk, Result.andThen_ok, Bool.false_eq_true, if_false]
    rw [hb2 .eql (.inl rfl)]
    simp
  · simp only [execOp, Sem.run_bind, hz, nil_eqGuard hk, Result.andThen_ok, if_true]
    rw [hb2 .neq (.inr rfl)]
    simp

/-! ### making -/

theorem more_obj_rich {m : Mem} (hm : MRep num C m) {w1 : World} (hw1 : w1.heap = C.w.heap) {v : Value} {cs : List AV} (hl : cs.length = v.cells.size) (h1 : ∀ (j : Nat) u, v.cells[j]? = some u → u.oneCell' = true) (h : ∀ (j : Nat) y u, cs[j]? = some y → v.cells[j]? = some u → ARep num C y u) (e : TypeId) :
    ORep num (C.more w1 (.cells v.cells e (0, 0))) C.n (.rich cs) := by
  refine ⟨v.cells, e, ?_, fun j x hx => ?_⟩
  · simp only [Cx.more, if_true]
    rw [alloc_get, if_pos (by rw [hw1])]
  · have hj : j < v.cells.size := by rw [← hl]; exact (List.getElem?_eq_some_iff.1 hx).1
    have hu : v.cells[j]? = some v.cells[j] := by simp [hj]
    exact ⟨v.cells[j], hu, h1 j _ hu, (h j x _ hx hu).mono (more_tr hm hw1 _)⟩

theorem y_box (hs : SRep num C s a) {t : TypeId} {x : Operand} {x' : Src} (hx : trSrc num x = some x') {cs : List AV} (hc : (s.env.ev x').cells = some cs) :
    Yields num P (.box t x) ty pos after a C s (.optr s.mem.length 0) { s with mem := s.mem ++ [.rich cs] } := by
  have h1 := src_rep hs hx
  obtain ⟨hl, ho, hr⟩ := rep_cells h1 hc
  have hlen := hs.mem.len
  refine ⟨.pointer (some ⟨C.w.heap.size, 0, none⟩), C.more C.w (.cells (a.eval x).cells t (0, 0)), fun _ _ => .inl ?_, more_step hs.mem rfl rfl rfl rfl _ _ (more_obj_rich hs.mem rfl hl ho hr t) hs.k, hs.env.mono (more_tr hs.mem rfl _), ?_, rfl⟩
  · simp [execOp, Instr.box, newVar, newRow, Cx.more]
  · rw [hlen]
    have : C.w.heap.size = (C.more C.w (.cells (a.eval x).cells t (0, 0))).σ C.n := by simp [Cx.more]
    rw [this]
    exact .optr _ _ (by simp [Cx.more])

theorem y_alloc (hs : SRep num C s a) {t : TypeId} {zs : List Value} (hz : zeroCellsOf P t = some zs) (h1 : zs.all oneCellV = true) :
    Yields num P (.alloc t) ty pos after a C s (.optr s.mem.length 0) { s with mem := s.mem ++ [.rich (imZ zs)] } := by
  have hlen := hs.mem.len
  obtain ⟨i, z, hi, hzi, rfl⟩ : ∃ i z, P.info? t = some i ∧ i.zero = some z ∧ zs = z.cells.toList := by
    unfold zeroCellsOf at hz
    cases hi : P.info? t with
    | none => simp [hi] at hz
    | some i => cases hzi : i.zero with
      | none => simp [hi, hzi] at hz
      | some z => simp [hi, hzi] at hz; exact ⟨i, z, rfl, hzi, hz.symm⟩
  have hone : ∀ (j : Nat) u, z.cells[j]? = some u → u.oneCell' = true := by
    intro j u hu
    rw [← oneCell_eq]
    exact List.all_eq_true.1 h1 u (by rw [Array.mem_toList_iff]; exact Array.mem_of_getElem? hu)
  refine ⟨.pointer (some ⟨C.w.heap.size, 0, none⟩), C.more C.w (.cells z.cells t (0, 0)), fun _ _ => .inl ?_, more_step hs.mem rfl rfl rfl rfl _ _ (more_obj_rich hs.mem rfl (by simp [imZ]) hone ?_ t) hs.k, hs.env.mono (more_tr hs.mem rfl _), ?_, rfl⟩
  · simp [execOp, Instr.alloc, zeroValue, typeInfo, hi, hzi, newVar, newRow, Cx.more]
  · intro j y u hy hu
    simp only [imZ, List.getElem?_map, Array.getElem?_toList, hu, Option.map_some, Option.some.injEq] at hy
    subst hy
    exact .imm _ _ (.val u (hone j u hu))
  · rw [hlen]
    have : C.w.heap.size = (C.more C.w (.cells z.cells t (0, 0))).σ C.n := by simp [Cx.more]
    rw [this]
    exact .optr _ _ (by simp [Cx.more])

theorem setAll_length {α : Type} : ∀ (xs l : List α) (off : Nat), (setAll l off xs).length = l.length
  | [], l, off => rfl
  | x :: xs, l, off => by simp [setAll, setAll_length xs]

theorem setAll_get {α : Type} : ∀ (xs l : List α) (off j : Nat), (setAll l off xs)[j]? = if off ≤ j ∧ j < off + xs.length ∧ j < l.length then xs[j - off]? else l[j]?
  | [], l, off, j => by simp only [setAll, List.length_nil, Nat.add_zero]; rw [if_neg (by omega)]
  | x :: xs, l, off, j => by
    simp only [setAll]
    rw [setAll_get xs (l.set off x) (off + 1) j]
    simp only [List.length_set, List.length_cons]
    by_cases h : off + 1 ≤ j ∧ j < off + 1 + xs.length ∧ j < l.length
    · rw [if_pos h, if_pos (by omega)]
      obtain ⟨k, hk⟩ : ∃ k, j - off = k + 1 := ⟨j - off - 1, by omega⟩
      rw [hk, List.getElem?_cons_succ]
      congr 1
      omega
    · rw [if_neg h, set_get]
      by_cases h2 : off = j ∧ j < l.length
      · obtain ⟨rfl, h3⟩ := h2
        rw [if_pos ⟨rfl, h3⟩, if_pos (by omega)]
        simp
      · rw [if_neg h2, if_neg (by omega)]

/-- The cells of a block behind a store, and the interpreter's. -/
theorem splice_get (arr : Array Value) (off : Nat) (us : List Value) (h : off + us.length ≤ arr.size) (j : Nat) :
    (arr.toList.take off ++ us ++ arr.toList.drop (off + us.length)).toArray[j]? = if off ≤ j ∧ j < off + us.length then us[j - off]? else arr[j]? := by
  rw [List.getElem?_toArray]
  have hl : (arr.toList.take off).length = off := by simp; omega
  rw [List.append_assoc]
  rcases Nat.lt_or_ge j off with h1 | h1
  · rw [List.getElem?_append_left (by omega), if_neg (by omega), List.getElem?_take_of_lt h1]; simp
  · rw [List.getElem?_append_right (by omega), hl]
    rcases Nat.lt_or_ge j (off + us.length) with h2 | h2
    · rw [List.getElem?_append_left (by omega), if_pos ⟨h1, h2⟩]
    · rw [List.getElem?_append_right (by omega), if_neg (by omega), List.getElem?_drop]
      simp
      congr 1
      omega

theorem splice_size (arr : Array Value) (off : Nat) (us : List Value) (h : off + us.length ≤ arr.size) :
    (arr.toList.take off ++ us ++ arr.toList.drop (off + us.length)).toArray.size = arr.size := by
  simp; omega

theorem imms_get : ∀ (cs : List AV) (xs : List IV), imms cs = some xs → cs = xs.map .imm
  | [], xs, h => by cases h; rfl
  | x :: r, xs, h => by
    cases x with
    | imm y =>
      simp only [imms] at h
      cases hr : imms r with
      | none => simp [hr] at h
      | some l => simp [hr] at h; subst h; simp [imms_get r l hr]
    | _ => simp [imms] at h

/-- A store into an object. -/
theorem store_step {m m' : Mem} (hm : MRep num C m) {p : AV} {v : Value} (hp : ARep num C p v) {cs : List AV} {us : List Value} (hl : cs.length = us.length) (h1 : ∀ u ∈ us, u.oneCell' = true)
    (hu : ∀ (j : Nat) y u, cs[j]? = some y → us[j]? = some u → ARep num C y u) (h : storeAt m p cs = some m') {k : Nat} (hk : k ≤ m.length) :
    ∃ b o w', v = .pointer (some ⟨b, o, none⟩) ∧ (storeCells ⟨b, o, none⟩ us).run P C.w = .ok () w' ∧ Step num k C m { C with w := w' } m' ∧ Tr some C { C with w := w' } := by
  unfold storeAt at h
  split at h
  · rename_i id off
    cases hp with
    | optr _ _ hid =>
      split at h
      · rename_i cl mv ho
        split at h
        · rename_i xs hxs
          split at h
          · rename_i hb
            cases h
            have hcx := imms_get cs xs hxs
            have hxl : xs.length = us.length := by rw [← hl, hcx]; simp
            obtain ⟨arr, e, hw, hc⟩ := hm.obj id _ ho
            have hcl : cl.length ≤ arr.size := by
              rcases Nat.eq_zero_or_pos cl.length with h0 | h0
              · omega
              · obtain ⟨u, hu', _⟩ := hc (cl.length - 1) cl[cl.length - 1] (by rw [List.getElem?_eq_getElem (by omega)])
                have := (Array.getElem?_eq_some_iff.1 hu').1
                omega
            have hfit : off + us.length ≤ arr.size := by omega
            refine ⟨C.σ id, off, _, rfl, run_storeCells_at P (C.σ id) off e us 0 arr C.w hw (by simpa using hfit) h1, ?_, ?_⟩
            · simp only [Nat.add_zero]
              refine update_step (o' := .flat (setAll cl off xs) mv) hm ho rfl hw (splice_size arr off us hfit) rfl (fun hmv => hmv) ?_ hk
              have ht := update_tr hm ho rfl hw (splice_size arr off us hfit)
              refine ⟨_, e, by show (C.w.setRow _ _).heap[_]? = _; rw [setRow_get _ _ _ _ _ hw, if_pos rfl], fun j x hx => ?_⟩
              rw [setAll_get] at hx
              rw [splice_get arr off us hfit]
              split at hx
              · rename_i hj
                rw [if_pos (by omega)]
                have hj' : j - off < us.length := by omega
                refine ⟨us[j - off], by simp [hj'], ?_⟩
                have := hu (j - off) (.imm x) us[j - off] (by rw [hcx, List.getElem?_map, hx]; rfl) (by simp [hj'])
                cases this with | imm _ _ hr => exact hr.mono ht.imm ht.keep
              · rename_i hj
                have hj2 : j < cl.length := (List.getElem?_eq_some_iff.1 hx).1
                rw [if_neg (by omega)]
                obtain ⟨u, hu', hr⟩ := hc j x hx
                exact ⟨u, hu', hr.mono ht.imm ht.keep⟩
            · simp only [Nat.add_zero]
              exact update_tr hm ho rfl hw (splice_size arr off us hfit)
          · cases h
        · cases h
      · rename_i cl ho
        split at h
        · rename_i hb
          cases h
          obtain ⟨arr, e, hw, hc⟩ := hm.obj id _ ho
          have hcl : cl.length ≤ arr.size := by
            rcases Nat.eq_zero_or_pos cl.length with h0 | h0
            · omega
            · obtain ⟨u, hu', _⟩ := hc (cl.length - 1) cl[cl.length - 1] (by rw [List.getElem?_eq_getElem (by omega)])
              have := (Array.getElem?_eq_some_iff.1 hu').1
              omega
          have hfit : off + us.length ≤ arr.size := by omega
          refine ⟨C.σ id, off, _, rfl, run_storeCells_at P (C.σ id) off e us 0 arr C.w hw (by simpa using hfit) h1, ?_, ?_⟩
          · simp only [Nat.add_zero]
            refine update_step (o' := .rich (setAll cl off cs)) hm ho rfl hw (splice_size arr off us hfit) rfl (fun hmv => hmv) ?_ hk
            have ht := update_tr hm ho rfl hw (splice_size arr off us hfit)
            refine ⟨_, e, by show (C.w.setRow _ _).heap[_]? = _; rw [setRow_get _ _ _ _ _ hw, if_pos rfl], fun j x hx => ?_⟩
            rw [setAll_get] at hx
            rw [splice_get arr off us hfit]
            split at hx
            · rename_i hj
              rw [if_pos (by omega)]
              have hj' : j - off < us.length := by omega
              refine ⟨us[j - off], by simp [hj'], h1 _ (by simp), ?_⟩
              exact (hu (j - off) x us[j - off] hx (by simp [hj'])).mono ht
            · rename_i hj
              have hj2 : j < cl.length := (List.getElem?_eq_some_iff.1 hx).1
              rw [if_neg (by omega)]
              obtain ⟨u, hu', ho1, hr⟩ := hc j x hx
              exact ⟨u, hu', ho1, hr.mono ht⟩
          · simp only [Nat.add_zero]
            exact update_tr hm ho rfl hw (splice_size arr off us hfit)
        · cases h
      · cases h
  · cases h

theorem y_store (hs : SRep num C s a) {t : TypeId} {p x : Operand} {p' x' : Src} (hk : known P t = true) (hp : trSrc num p = some p') (hx : trSrc num x = some x') {cs : List AV} (hc : (s.env.ev x').cells = some cs) (hn : cs.length = P.cellsOf t)
    {m' : Mem} (h : storeAt s.mem (s.env.ev p') cs = some m') : Yields num P (.store t p x) ty pos after a C s .junk { s with mem := m' } := by
  obtain ⟨i, d, hi, hd, hsz, _⟩ := known_some hk
  obtain ⟨hl, ho, hr⟩ := rep_cells (src_rep hs hx) hc
  obtain ⟨b, o, w', hv, hrun, hst, htr⟩ := store_step (P := P) hs.mem (src_rep hs hp) (us := (a.eval x).cells.toList) (by simpa using hl)
    (fun u hu => by
      obtain ⟨j, hj⟩ := List.getElem?_of_mem hu
      exact ho j u (by simpa using hj)) (fun j y u hy hu => hr j y u hy (by simpa using hu)) h hs.k
  refine ⟨undef, { C with w := w' }, fun _ _ => .inr ⟨?_, rfl⟩, hst, hs.env.mono htr, .junk _, rfl⟩
  have hne : ¬ ((a.eval x).cells.size ≠ i.size) := by simp only [ne_eq, Decidable.not_not]; omega
  simp only [execOp, Instr.storeAt, Sem.run_bind, hv, Instr.sureAddr, Sem.run_pure, Result.andThen_ok, storeVar, run_sizeOf' hi]
  rw [if_neg hne]
  simp [hrun]

theorem y_mkClo (hs : SRep num C s a) {f : FuncId} {caps : Array Operand} {cs : List Src} (hc : caps.toList.mapM (trSrc num) = some cs) :
    Yields num P (.makeFunc (.func f) #[] caps) ty pos after a C s (.clo (num f) (cs.map s.env.ev)) s := by
  have key : ∀ (l : List Operand) (cs : List Src), l.mapM (trSrc num) = some cs → l.length = cs.length ∧ ∀ (j : Nat) (x : AV) u, (cs.map s.env.ev)[j]? = some x → (l.map a.eval)[j]? = some u → ARep num C x u := by
    intro l
    induction l with
    | nil => intro cs h; simp at h; subst h; exact ⟨rfl, fun j x u hx => by simp at hx⟩
    | cons y l ih =>
      intro cs h
      simp only [List.mapM_cons, Option.bind_eq_bind, Option.bind_eq_some_iff, Option.pure_def, Option.some.injEq] at h
      obtain ⟨y', hy, l', hl, rfl⟩ := h
      obtain ⟨h1, h2⟩ := ih l' hl
      refine ⟨by simp [h1], fun j x u hx hu => ?_⟩
      cases j with
      | zero => simp at hx hu; subst hx hu; exact src_rep hs hy
      | succ j => simp at hx hu; exact h2 j x u (by simpa using hx) (by simpa using hu)
  obtain ⟨h1, h2⟩ := key _ _ hc
  refine yields_pure (v := .func (.func f) #[] (caps.map a.eval)) hs (fun _ _ => by simp [execOp, Instr.makeFunc]) (.clo f _ _ (by simp [← h1]) fun j x u hx hu => h2 j x u hx ?_)
  simpa using hu

end
end Go.EX
