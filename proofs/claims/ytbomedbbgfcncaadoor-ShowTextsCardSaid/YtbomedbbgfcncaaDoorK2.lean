import Derived.Test.YtbomedbbgfcncaaDoorK1
import Derived.Laws.StructEq
import Derived.CallsIn
import Derived.Laws.Strings
import GoSem.Instr.MapUpdate
import Derived.MapKept
import Derived.LaidEqlPtr
import Derived.Laws.BytesString
import Derived.Lib.ConvBytes
set_option linter.unusedVariables false
set_option linter.unusedSimpArgs false
namespace Go.EX
section
variable {num : Names} {P : Program}
variable {ty : TypeId} {pos : String} {after : Array Edge} {a : Act} {C : Cx} {s : St}
def Cx.claim (C : Cx) (nb : Nat) (w' : World) : Cx := { σ := fun i => if i = C.n then nb else C.σ i, I := C.I, n := C.n + 1, w := w' }
theorem claim_tr {m : Mem} (hm : MRep num C m) {id : Nat} {o : AObj} (ho : m[id]? = some o) (hlo : o.live = true) {w' : World} {nb : Nat}
    (hw : ∀ b, b < C.w.heap.size → b ≠ C.σ id → w'.heap[b]? = C.w.heap[b]?) (hsz : ∀ n e, RowAt C.w (C.σ id) n e → RowAt (w') (C.σ id) n e) :
    Tr some C (C.claim nb w') := by
  refine ⟨fun _ h => h, fun b hb => hw b (hm.bd b hb) fun e => hm.imm b ⟨id, o, ho, hlo, e.symm⟩ hb, fun i j hi hj => ?_⟩
  cases hj
  have hne : i ≠ C.n := by omega
  refine ⟨Nat.lt_succ_of_lt hi, by simp [Cx.claim, hne], fun arr e h => ?_⟩
  by_cases hc : C.σ i = C.σ id
  · rw [hc] at h ⊢; exact hsz arr e h
  · exact h.same (hw _ h.lt hc)
theorem claim_step {m : Mem} (hm : MRep num C m) {id : Nat} {o : AObj} (ho : m[id]? = some o) (hlo : o.live = true) {w' : World} {nb : Nat} (hnb : nb = C.σ id ∨ (C.w.heap.size ≤ nb))
    (hos : w'.os = C.w.os) (htp : w'.tape = C.w.tape) (hout : w'.output = C.w.output) (hsize : C.w.heap.size ≤ w'.heap.size)
    (hw : ∀ b, b < C.w.heap.size → b ≠ C.σ id → w'.heap[b]? = C.w.heap[b]?) (hsz : ∀ n e, RowAt C.w (C.σ id) n e → RowAt (w') (C.σ id) n e)
    {p : AObj} (hr : ORep num (C.claim nb w') C.n p) {k : Nat} (hk : k ≤ m.length) (hof : o.isFix = false := by rfl) :
    Step num k C m (C.claim nb w') (m.set id .dead ++ [p]) := by
  have ht := claim_tr (nb := nb) hm ho hlo hw hsz
  have hid : id < m.length := (List.getElem?_eq_some_iff.1 ho).1
  have hlen := hm.len
  have hσ : ∀ i, i < m.length → (C.claim nb w').σ i = C.σ i := fun i hi => by simp only [Cx.claim]; rw [if_neg (by omega)]
  have hσn : (C.claim nb w').σ C.n = nb := by simp [Cx.claim]
  have split : ∀ (i : Nat) (q : AObj), (m.set id .dead ++ [p])[i]? = some q → (i < m.length ∧ i ≠ id ∧ m[i]? = some q) ∨ (i = id ∧ q = .dead) ∨ (i = C.n ∧ q = p) := by
    intro i q hq
    rcases Nat.lt_or_ge i m.length with h | h
    · rw [List.getElem?_append_left (by rw [List.length_set]; exact h), set_get] at hq
      split at hq
      · rename_i hi; exact .inr (.inl ⟨hi.1.symm, (Option.some.inj hq).symm⟩)
      · rename_i hi; exact .inl ⟨h, fun e => hi ⟨e.symm, by rw [e]; exact hid⟩, hq⟩
    · rw [List.getElem?_append_right (by rw [List.length_set]; exact h), List.length_set] at hq
      have h0 : i - m.length = 0 := by
        rcases Nat.eq_zero_or_pos (i - m.length) with h0 | h0
        · exact h0
        · rw [List.getElem?_eq_none (by simp; omega)] at hq; cases hq
      rw [h0] at hq
      exact .inr (.inr ⟨by omega, by simpa using hq.symm⟩)
  have hlt : ∀ i q, m[i]? = some q → q.live = true → C.σ i < C.w.heap.size := fun i q hq hl => MRep.lt num hm ⟨i, q, hq, hl, rfl⟩
  have hown : ∀ b, Own (C.claim nb w') (m.set id .dead ++ [p]) b → C.w.heap.size ≤ b ∨ Own C m b := by
    rintro b ⟨i, q, hq, hl, hb⟩
    rcases split i q hq with ⟨hi, hne, hq'⟩ | ⟨rfl, rfl⟩ | ⟨rfl, rfl⟩
    · rw [hσ i hi] at hb; exact .inr ⟨i, q, hq', hl, hb⟩
    · cases hl
    · rw [hσn] at hb
      rcases hnb with h | h
      · exact .inr ⟨id, o, ho, hlo, by rw [← hb, h]⟩
      · exact .inl (by omega)
  refine ⟨⟨by simp [Cx.claim, hlen], ?_, ?_, ?_, fun b hb => Nat.lt_of_lt_of_le (hm.bd b hb) hsize, num.up hm.glo ht.imm ht.keep⟩, hos, htp, hout, hsize, ?_, ?_, fun _ h => h, fun _ h => .inl h, hown, ?_, by simp; omega⟩
  · intro i q hq
    rcases split i q hq with ⟨hi, hne, hq'⟩ | ⟨rfl, rfl⟩ | ⟨rfl, rfl⟩
    · by_cases hlq : q.live = true
      · refine orep_mono ht (hσ i hi) (fun x h => ?_) (hm.obj i q hq')
        show w'.heap[C.σ i]? = _
        rw [hw _ (hlt i q hq' hlq) fun e => hne (hm.inj2 num i id q o hq' ho hlq hlo hof e)]
        exact h
      · cases q with
        | dead => trivial
        | _ => exact absurd rfl hlq
    · trivial
    · exact hr
  · intro i j q q2 hq hq2 hl1 hl2 he
    rcases split i q hq with ⟨hi, hne, hq'⟩ | ⟨rfl, rfl⟩ | ⟨rfl, rfl⟩ <;> rcases split j q2 hq2 with ⟨hj, hne2, hq2'⟩ | ⟨rfl, rfl⟩ | ⟨rfl, rfl⟩
    · rw [hσ i hi, hσ j hj] at he; exact hm.inj i j q q2 hq' hq2' hl1 hl2 he
    · cases hl2
    · rw [hσ i hi, hσn] at he
      have hb := hlt i q hq' hl1
      rcases hnb with h | h
      · exact absurd (hm.inj2 num i id q o hq' ho hl1 hlo hof (by rw [he, h])) hne
      · omega
    · cases hl1
    · exact .inl rfl
    · cases hl1
    · rw [hσ j hj, hσn] at he
      have hb := hlt j q2 hq2' hl2
      rcases hnb with h | h
      · exact absurd (hm.inj2 num j id q2 o hq2' ho hl2 hlo hof (by rw [← he, h])) hne2
      · omega
    · cases hl2
    · exact .inl rfl
  · intro b hb hI
    rcases hown b hb with h | h
    · have := hm.bd b hI; omega
    · exact hm.imm b h hI
  · intro b hb hno
    exact hw b hb fun e => hno ⟨id, o, ho, hlo, e.symm⟩
  · intro b arr e h
    by_cases hb : b = C.σ id
    · subst hb; exact hsz arr e h
    · exact h.same (hw b h.lt hb)
  · intro i _ q hq hmq
    rcases split i q hq with ⟨hi, hne, hq'⟩ | ⟨rfl, rfl⟩ | ⟨rfl, rfl⟩
    · exact ⟨q, hq', hmq, hσ i hi⟩
    · cases hmq
    · omega
structure GivenR (num : Names) (P : Program) (C : Cx) (sz : Nat) (v : Value) (n : Nat) (news : List AV) (us : Array Value) : Prop where
  len : ∀ w, (Builtin.lenOf v).run P w = .ok n w
  cells : ∀ w, w.heap = C.w.heap → (Builtin.firstCells sz n v).run P w = .ok us w
  size : us.size = n * sz
  count : news.length = n * sz
  rep : ∀ (j : Nat) x, news[j]? = some x → ∃ u : Value, us[j]? = some u ∧ u.oneCell' = true ∧ ARep num C x u
theorem givenR_of {m : Mem} (hm : MRep num C m) {sz : Nat} {x : AV} {v : Value} (hx : ARep num C x v) {n : Nat} {news : List AV} (h : elemsR m sz x = some (n, news)) :
    ∃ us, GivenR num P C sz v n news us := by
  unfold elemsR at h
  split at h
  · rename_i id off sz' len cap
    have key : ∀ (l : List AV), CellsAt num C (C.σ id) 0 l → cut l off (len * sz) = some news → n = len → ∃ us, GivenR num P C sz v n news us := by
      rintro l hl hc rfl
      have hrl := cut_length hc
      have hcell : ∀ (j : Nat) x, news[j]? = some x → ∃ u : Value, C.w.cell? ⟨C.σ id, off + j, none⟩ = some u ∧ u.oneCell' = true ∧ ARep num C x u := by
        intro j x hx
        have hj : j < n * sz := by rw [← hrl]; exact (List.getElem?_eq_some_iff.1 hx).1
        have h2 := cut_get hc j hj
        rw [hx] at h2
        obtain ⟨u, hu, ho, hr⟩ := hl _ _ h2
        exact ⟨u, by rw [Nat.zero_add] at hu; exact hu, ho, hr⟩
      cases hx with
      | osl _ _ _ _ _ c ad arr e hid hl' hk ha hw hs =>
        rcases ha with rfl | rfl
        · let f : Nat → Value := fun j => (C.w.cell? ⟨C.σ id, ad + j, none⟩).getD undef
          refine ⟨((List.range (n * sz)).map f).toArray, ⟨fun w => rfl, fun w hw => ?_, by simp, hrl, fun j x hx => ?_⟩⟩
          · simp only [Builtin.firstCells]
            refine run_loadCells w _ (n * sz) f fun j hj => ?_
            rw [heap_cell hw]
            obtain ⟨u, hu, _⟩ := hcell j news[j] (List.getElem?_eq_getElem (by omega))
            rw [addr_add, hu]
            simp [f, hu]
          · obtain ⟨u, hu, ho, hr⟩ := hcell j x hx
            have hj : j < n * sz := by rw [← hrl]; exact (List.getElem?_eq_some_iff.1 hx).1
            exact ⟨u, by simp [f, hu, hj], ho, hr⟩
        · have hl0 : n = 0 := by omega
          subst hl0
          have hr0 : news = [] := List.eq_nil_of_length_eq_zero (by omega)
          subst hr0
          exact ⟨#[], ⟨fun w => rfl, fun w _ => by simp [Builtin.firstCells, loadCells, loadCellsFrom], by simp, by simp, fun j x hx => by simp at hx⟩⟩
    split at h
    · rename_i cs ho
      cases hc : cut cs off (len * sz) with
      | none => simp [hc] at h
      | some r =>
        simp [hc] at h
        obtain ⟨rfl, rfl⟩ := h
        exact key _ (cellsAt_rich (hm.obj id _ ho)) hc rfl
    · rename_i cs mv ho
      cases hc : cut cs off (len * sz) with
      | none => simp [hc] at h
      | some r =>
        simp [hc] at h
        obtain ⟨rfl, rfl⟩ := h
        exact key _ (cellsAt_flat (hm.obj id _ ho)) (by rw [cut_map, hc]; rfl) rfl
    · cases h
  · cases h
theorem rich_grown {D : Cx} (ht : Tr some C D) {olds us : Array Value} {rest : List Value} {ol nl : List AV} (ho : ∀ (j : Nat) x, ol[j]? = some x → ∃ u : Value, olds[j]? = some u ∧ u.oneCell' = true ∧ ARep num C x u) (hol : ol.length = olds.size)
    (hn : ∀ (j : Nat) x, nl[j]? = some x → ∃ u : Value, us[j]? = some u ∧ u.oneCell' = true ∧ ARep num C x u) {arr : Array Value} (h1 : ∀ j : Nat, j < olds.size → arr[j]? = olds[j]?) (h2 : ∀ j : Nat, j < us.size → arr[olds.size + j]? = us[j]?) :
    ∀ (j : Nat) x, (ol ++ nl)[j]? = some x → ∃ u : Value, arr[j]? = some u ∧ u.oneCell' = true ∧ ARep num D x u := by
  intro j x hx
  rcases Nat.lt_or_ge j ol.length with h | h
  · rw [List.getElem?_append_left h] at hx
    obtain ⟨u, hu, hone, hr⟩ := ho j x hx
    exact ⟨u, by rw [h1 j (by omega)]; exact hu, hone, hr.mono ht⟩
  · rw [List.getElem?_append_right h] at hx
    obtain ⟨u, hu, hone, hr⟩ := hn _ x hx
    have hj := (Array.getElem?_eq_some_iff.1 hu).1
    refine ⟨u, ?_, hone, hr.mono ht⟩
    have := h2 (j - ol.length) hj
    rw [← hol] at this
    have e : ol.length + (j - ol.length) = j := by omega
    rw [e] at this
    rw [this]; exact hu
theorem y_appendR (hs : SRep num C s a) {t u e : TypeId} {d : TypeDesc} {x y : Operand} {x' y' : Src} (ht : P.underlying t = some (.slice e)) (hu : P.underlying u = some d) (hd : notIntD d = true) (hk : known P e = true) (h0 : 0 < P.cellsOf e) (hb0 : 0 < P.bytesOf e)
    (hz : zeroOk P e = true) (hx : trSrc num x = some x') (hy : trSrc num y = some y') {r : AV} {s' : St} (h : exAppendR s (P.cellsOf e) (P.bytesOf e) (s.env.ev x') (s.env.ev y') = some (r, s')) :
    Yields num P (.call { callee := .builtin .append, args := #[x, y], argTypes := #[t, u] }) ty pos after a C s r s' := by
  obtain ⟨i, dd, hi, _, hsz, hby⟩ := known_some hk
  obtain ⟨z, hzi, hzs⟩ : ∃ z, i.zero = some z ∧ z.cells.size = P.cellsOf e := by
    unfold zeroOk zeroCellsOf at hz
    rw [hi] at hz
    cases hq : i.zero with
    | none => simp [hq] at hz
    | some z => simp [hq] at hz; exact ⟨z, rfl, hz⟩
  have hm := hs.mem
  have hlen := hm.len
  unfold exAppendR at h
  cases hel : elemsR s.mem (P.cellsOf e) (s.env.ev y') with
  | none => simp [hel] at h
  | some nn =>
    obtain ⟨n, news⟩ := nn
    simp only [hel] at h
    split at h
    · cases h
    rename_i hn0
    obtain ⟨us, hg⟩ := givenR_of (P := P) hm (src_rep hs hy) hel
    have hax := src_rep hs hx
    have hexec : ∀ (b : Option Addr) (l c : Nat) (v : Value) (w' : World), a.eval x = .slice b l c → (Builtin.append_ #[t, u] ty #[.slice b l c, a.eval y]).run P C.w = .ok v w' →
        ∀ dst g, (execOp a.eval ⟨dst, .call { callee := .builtin .append, args := #[x, y], argTypes := #[t, u] }, ty, pos, after, g⟩).run P C.w = .ok (.value v) w' := by
      intro b l c v w' hb hr dst g
      simp [execOp, resolve, invoke, builtin, hb, hr]
    split at h
    · rename_i heq
      have hxv : a.eval x = .slice none 0 0 := by rw [heq] at hax; exact rep_val hax
      split at h
      · rename_i hbd
        simp only [fresh, Option.some.injEq, Prod.mk.injEq] at h
        obtain ⟨rfl, rfl⟩ := h
        have hr := run_append_grows (P := P) (ty := ty) ht hu hd hi hzi C.w none 0 0 n (a.eval y) #[] us (hg.len _) (by rw [← hsz]; exact hg.cells _ rfl) rfl (by omega) (by rw [← hby, Nat.zero_add]; exact hbd) (by rw [← hby]; exact hb0)
        generalize hrest : Builtin.zeroCells z.cells (grownCap C.w (0 + n) 0 e - (0 + n)) = rest at hr
        have htr := more_tr (w1 := C.w.drew) hm rfl (.cells (#[] ++ us ++ rest) e (0, 0))
        refine ⟨_, C.more C.w.drew (.cells (#[] ++ us ++ rest) e (0, 0)), fun dst g => .inl (hexec none 0 0 _ _ hxv hr dst g), more_step (w1 := C.w.drew) hm rfl rfl rfl rfl _ _ ?_ hs.k, hs.env.mono htr, ?_, rfl⟩
        · refine ⟨#[] ++ us ++ rest, e, ?_, ?_⟩
          · simp only [Cx.more, if_true]
            rw [alloc_get, if_pos (show C.w.heap.size = C.w.drew.heap.size from rfl)]
          · intro j x hx
            obtain ⟨u, hu, hone, hr'⟩ := hg.rep j x hx
            have hj := (Array.getElem?_eq_some_iff.1 hu).1
            refine ⟨u, ?_, hone, hr'.mono htr⟩
            rw [Array.getElem?_append_left (by simp; exact hj)]
            simpa using hu
        · have hge := grownCap_ge C.w (0 + n) 0 e
          rw [hlen]
          rw [Nat.zero_add] at hge ⊢
          refine more_osl (w1 := C.w.drew) rfl _ e (grown_fits (by assumption) hb0) (fun k hk => by cases hk) (.inr ?_)
          have hrs : rest.size = (grownCap C.w (0 + n) 0 e - (0 + n)) * P.cellsOf e := by rw [← hrest, zeroCells_size, hzs]
          rw [Nat.zero_add] at hrs
          rw [Array.size_append, Array.size_append, hg.size, hrs]
          simp only [List.size_toArray, List.length_nil, Nat.zero_add]
          rw [← Nat.add_mul]
          exact Nat.le_of_eq (by congr 1; omega)
      · cases h
    · rename_i id sz' l heq
      split at h
      · rename_i hsz'
        subst hsz'
        cases hol : elemsR s.mem (P.cellsOf e) (.osl id 0 (P.cellsOf e) l none) with
        | none => simp [hol] at h
        | some pp =>
          obtain ⟨l', old⟩ := pp
          simp only [hol] at h
          split at h
          · rename_i hbd
            simp only [Option.some.injEq, Prod.mk.injEq] at h
            obtain ⟨rfl, rfl⟩ := h
            have hax0 := hax
            rw [heq] at hax0
            have hll : l' = l := by
              unfold elemsR at hol
              dsimp only at hol
              split at hol
              · simp only [Option.map_eq_some_iff] at hol; obtain ⟨_, _, h⟩ := hol; cases h; rfl
              · simp only [Option.map_eq_some_iff] at hol; obtain ⟨_, _, h⟩ := hol; cases h; rfl
              · cases hol
            subst hll
            obtain ⟨olds, hg2⟩ := givenR_of (P := P) hm hax0 hol
            obtain ⟨o, ho, hlo, hof, a2, e2, hw2⟩ : ∃ o, s.mem[id]? = some o ∧ o.live = true ∧ o.isFix = false ∧ ∃ a2 e2, C.w.heap[C.σ id]? = some (.cells a2 e2 (0, 0)) := by
              unfold elemsR at hol
              dsimp only at hol
              split at hol
              · rename_i ho; obtain ⟨a2, e2, h2, _⟩ := hm.obj id _ ho; exact ⟨_, ho, rfl, rfl, a2, e2, h2⟩
              · rename_i ho; obtain ⟨a2, e2, h2, _⟩ := hm.obj id _ ho; exact ⟨_, ho, rfl, rfl, a2, e2, h2⟩
              · cases hol
            rw [heq] at hax
            generalize hxv : a.eval x = v at hax hg2
            cases hax with
            | osl _ _ _ _ _ c' ad arr e' hid hl hk' ha hw hss =>
              obtain ⟨arr, fz0, hw, rfl⟩ := hw
              rw [hw] at hw2
              obtain ⟨rfl, rfl, rfl⟩ : arr = a2 ∧ e' = e2 ∧ fz0 = (0, 0) := by simpa using hw2
              rcases Nat.lt_or_ge c' (l' + n) with hgt | hroom
              ·
                have hr := run_append_grows (P := P) (ty := ty) ht hu hd hi hzi C.w (some ⟨C.σ id, ad, none⟩) l' c' n (a.eval y) olds us (hg.len _) (by rw [← hsz]; exact hg.cells _ rfl) (by rw [← hsz]; exact hg2.cells _ rfl) hgt (by rw [← hby]; exact hbd) (by rw [← hby]; exact hb0)
                generalize hrest : Builtin.zeroCells z.cells (grownCap C.w (l' + n) c' e - (l' + n)) = rest at hr
                have hlt : C.σ id < C.w.heap.size := (Array.getElem?_eq_some_iff.1 hw).1
                have hwk : ∀ b, b < C.w.heap.size → (C.w.drew.alloc (.cells (olds ++ us ++ rest) e)).heap[b]? = C.w.heap[b]? := by
                  intro b hb
                  rw [alloc_get, if_neg (show ¬ b = C.w.drew.heap.size by show ¬ b = C.w.heap.size; omega)]
                  rfl
                have hnew : (C.w.drew.alloc (.cells (olds ++ us ++ rest) e)).heap[C.w.heap.size]? = some (.cells (olds ++ us ++ rest) e (0, 0)) := by
                  rw [alloc_get, if_pos (show C.w.heap.size = C.w.drew.heap.size from rfl)]
                have hsz3 : ∀ n9 e9, RowAt C.w (C.σ id) n9 e9 → RowAt (C.w.drew.alloc (.cells (olds ++ us ++ rest) e)) (C.σ id) n9 e9 := fun _ _ h => h.same (hwk _ hlt)
                have htr := claim_tr (nb := C.w.heap.size) hm ho hlo (w' := C.w.drew.alloc (.cells (olds ++ us ++ rest) e)) (fun b hb _ => hwk b hb) hsz3
                refine ⟨_, C.claim C.w.heap.size (C.w.drew.alloc (.cells (olds ++ us ++ rest) e)), fun dst g => .inl (hexec _ l' c' _ _ hxv hr dst g), claim_step (w' := C.w.drew.alloc (.cells (olds ++ us ++ rest) e)) hm ho hlo (.inr (Nat.le_refl _)) rfl rfl rfl (by rw [World.size_alloc]; exact Nat.le_succ C.w.heap.size) (fun b hb _ => hwk b hb) hsz3 ?_ hs.k hof, hs.env.mono htr, ?_, rfl⟩
                · refine ⟨olds ++ us ++ rest, e, by simp only [Cx.claim, if_true]; exact hnew, rich_grown htr (rest := []) hg2.rep (by rw [hg2.count, hg2.size]) hg.rep (fun j hj => ?_) (fun j hj => ?_)⟩
                  · rw [Array.append_assoc, Array.getElem?_append_left hj]
                  · rw [Array.append_assoc, Array.getElem?_append_right (by omega), Array.getElem?_append_left (by omega)]
                    congr 1; omega
                · have hrs : rest.size = (grownCap C.w (l' + n) c' e - (l' + n)) * P.cellsOf e := by rw [← hrest, zeroCells_size, hzs]
                  have hge := grownCap_ge C.w (l' + n) c' e
                  have hσn : (C.claim C.w.heap.size (C.w.drew.alloc (.cells (olds ++ us ++ rest) e))).σ C.n = C.w.heap.size := by simp [Cx.claim]
                  rw [hlen]
                  conv => arg 4; rw [← hσn]
                  refine .osl0 C.n 0 _ _ none _ 0 _ e (by simp [Cx.claim]) (grown_fits (by assumption) hb0) (fun k hk => by cases hk) (.inl rfl) (by rw [hσn]; exact hnew) (.inr ?_)
                  rw [Array.size_append, Array.size_append, hg2.size, hg.size, hrs, ← Nat.add_mul, ← Nat.add_mul, Nat.zero_add]
                  exact Nat.le_of_eq (by congr 1; omega)
              ·
                have hus : us.toList.length = n * P.cellsOf e := by rw [Array.length_toList, hg.size]
                have hc0 : c' ≠ 0 := by omega
                rcases ha with rfl | h00
                · have hfit : l' * P.cellsOf e + us.toList.length ≤ arr.size := by
                    rw [hus, ← Nat.add_mul]
                    rcases hss with h0 | h0
                    · omega
                    · have := Nat.mul_le_mul_right (P.cellsOf e) hroom
                      omega
                  have hone : ∀ u ∈ us.toList, u.oneCell' = true := by
                    intro u hu
                    obtain ⟨j, hj⟩ := List.getElem?_of_mem hu
                    rw [Array.getElem?_toList] at hj
                    have hlt : j < news.length := by rw [hg.count, ← hg.size]; exact (Array.getElem?_eq_some_iff.1 hj).1
                    obtain ⟨u', hu', h1, _⟩ := hg.rep j news[j] (List.getElem?_eq_getElem hlt)
                    rw [hj] at hu'
                    cases hu'
                    exact h1
                  have hst := run_storeCells_at P (C.σ id) (l' * P.cellsOf e) e' us.toList 0 arr C.w hw (by rw [Nat.add_zero]; exact hfit) hone
                  simp only [Nat.add_zero] at hst
                  have hr := run_append_rooms (P := P) (ty := ty) ht hu hd hi C.w (some ⟨C.σ id, 0, none⟩) l' c' n (a.eval y) us (hg.len _) (by rw [← hsz]; exact hg.cells _ rfl) hroom
                    (fun ad' had => by cases had; rw [addr_add, ← hsz, Nat.zero_add]; exact hst) (fun h => by cases h)
                  have hsp := splice_size arr (l' * P.cellsOf e) us.toList hfit
                  generalize hnr : (arr.toList.take (l' * P.cellsOf e) ++ us.toList ++ arr.toList.drop (l' * P.cellsOf e + us.toList.length)).toArray = narr at hr hsp hst
                  have hwk : ∀ b, b < C.w.heap.size → b ≠ C.σ id → (C.w.setRow (C.σ id) narr).heap[b]? = C.w.heap[b]? := by
                    intro b _ hb
                    rw [setRow_get _ _ _ _ _ hw, if_neg hb]
                  have hws : (C.w.setRow (C.σ id) narr).heap[C.σ id]? = some (.cells narr e' (0, 0)) := by
                    rw [setRow_get _ _ _ _ _ hw, if_pos rfl]
                  have hsz3 : ∀ n9 e9, RowAt C.w (C.σ id) n9 e9 → RowAt (C.w.setRow (C.σ id) narr) (C.σ id) n9 e9 := by
                    intro n0 e0 h0'
                    exact h0'.put hw hws hsp
                  have htr := claim_tr (nb := C.σ id) hm ho hlo (w' := C.w.setRow (C.σ id) narr) hwk hsz3
                  have hσn : (C.claim (C.σ id) (C.w.setRow (C.σ id) narr)).σ C.n = C.σ id := by simp [Cx.claim]
                  have holds : ∀ j : Nat, j < olds.size → arr[j]? = olds[j]? := by
                    intro j hj
                    obtain ⟨u, hu⟩ : ∃ u, olds[j]? = some u := ⟨_, Array.getElem?_eq_getElem hj⟩
                    have h3 := hg2.cells C.w rfl
                    simp only [Builtin.firstCells] at h3
                    rw [hu]
                    have hl2 : l' * P.cellsOf e ≤ arr.size := by omega
                    have h4 := run_loadCells (P := P) C.w ⟨C.σ id, 0, none⟩ (l' * P.cellsOf e) (fun j => arr.getD j undef) (fun j hj => by
                      rw [addr_add, cell_of_row C.w _ _ arr e' _ hw]
                      have : 0 + j < arr.size := by omega
                      simp [Array.getD, this, show j < arr.size by omega])
                    rw [h4] at h3
                    simp only [Result.ok.injEq] at h3
                    have h5 := h3.1
                    rw [← h5] at hu
                    have hj2 : j < l' * P.cellsOf e := by rw [← hg2.size]; exact hj
                    simp [hj2] at hu
                    have hja : j < arr.size := by omega
                    simp [Array.getD, hja] at hu
                    rw [Array.getElem?_eq_getElem hja, hu]
                  refine ⟨_, C.claim (C.σ id) (C.w.setRow (C.σ id) narr), fun dst g => .inl (hexec _ l' c' _ _ hxv hr dst g), claim_step (w' := C.w.setRow (C.σ id) narr) hm ho hlo (.inl rfl) rfl rfl rfl (by rw [size_setRow]; exact Nat.le_refl _) hwk hsz3 ?_ hs.k hof, hs.env.mono htr, ?_, rfl⟩
                  · refine ⟨narr, e', by simp only [Cx.claim, if_true]; exact hws, rich_grown htr (rest := []) hg2.rep (by rw [hg2.count, hg2.size]) hg.rep (fun j hj => ?_) (fun j hj => ?_)⟩
                    · rw [← hnr, splice_get arr _ us.toList hfit, if_neg (by rw [← hg2.size]; omega)]
                      exact holds j hj
                    · rw [← hnr, splice_get arr _ us.toList hfit, if_pos (by rw [hg2.size, hus, ← hg.size]; omega), Array.getElem?_toList]
                      congr 1; rw [hg2.size]; omega
                  · rw [hlen]
                    conv => arg 4; rw [← hσn]
                    exact .osl0 C.n 0 _ _ none c' 0 _ e' (by simp [Cx.claim]) (by omega) (fun k hk => by cases hk) (.inl rfl) (by rw [hσn]; exact hws) (by rw [hsp]; exact hss)
                · omega
          · cases h
      · cases h
    · rename_i id off sz' l c heq
      split at h
      · rename_i hsr
        obtain ⟨rfl, hroom⟩ := hsr
        rw [heq] at hax
        generalize hxv : a.eval x = v at hax
        cases hax with
        | osl _ _ _ _ _ c' ad arr e' hid hl hk' ha hw hss =>
          obtain ⟨arr, fz0, hw, rfl⟩ := hw
          have hcc := hk' c rfl
          subst hcc
          split at h
          · rename_i cs hrich
            split at h
            · rename_i hfitc
              simp only [Option.some.injEq, Prod.mk.injEq] at h
              obtain ⟨rfl, rfl⟩ := h
              obtain ⟨o, ho, hlo, hmo, hof, rfl, hcs⟩ : ∃ o, s.mem[id]? = some o ∧ o.live = true ∧ o.moved = false ∧ o.isFix = false ∧ fz0 = (0, 0) ∧ ∀ (j : Nat) x, cs[j]? = some x → ∃ u : Value, arr[j]? = some u ∧ u.oneCell' = true ∧ ARep num C x u := by
                unfold richOf at hrich
                split at hrich
                · rename_i ho
                  cases hrich
                  obtain ⟨arr2, e2, hw2, hcs⟩ := hm.obj id _ ho
                  rw [hw] at hw2
                  obtain ⟨rfl, rfl, rfl⟩ : arr = arr2 ∧ e' = e2 ∧ fz0 = (0, 0) := by simpa using hw2
                  exact ⟨_, ho, rfl, rfl, rfl, rfl, hcs⟩
                · rename_i cs0 ho
                  cases hrich
                  obtain ⟨arr2, e2, hw2, hcs⟩ := hm.obj id _ ho
                  rw [hw] at hw2
                  obtain ⟨rfl, rfl, rfl⟩ : arr = arr2 ∧ e' = e2 ∧ fz0 = (0, 0) := by simpa using hw2
                  refine ⟨_, ho, rfl, rfl, rfl, rfl, fun j x hx => ?_⟩
                  rw [List.getElem?_map] at hx
                  cases hq : cs0[j]? with
                  | none => simp [hq] at hx
                  | some y =>
                    simp [hq] at hx; subst hx
                    obtain ⟨u, hu, hr'⟩ := hcs j y hq
                    exact ⟨u, hu, hr'.one, .imm y _ hr'⟩
                · cases hrich
              have hcl : cs.length ≤ arr.size := by
                rcases Nat.lt_or_ge arr.size cs.length with h1 | h1
                · obtain ⟨u, hu, _⟩ := hcs arr.size _ (List.getElem?_eq_getElem h1)
                  rw [Array.getElem?_eq_none (Nat.le_refl _)] at hu; cases hu
                · exact h1
              rcases ha with rfl | h00
              · have hus : us.toList.length = n * P.cellsOf e := by rw [Array.length_toList, hg.size]
                have hfit : ad + l * P.cellsOf e + us.toList.length ≤ arr.size := by rw [hus, Nat.add_assoc, ← Nat.add_mul]; omega
                have hone : ∀ u ∈ us.toList, u.oneCell' = true := by
                  intro u hu
                  obtain ⟨j, hj⟩ := List.getElem?_of_mem hu
                  rw [Array.getElem?_toList] at hj
                  have hlt : j < news.length := by rw [hg.count, ← hg.size]; exact (Array.getElem?_eq_some_iff.1 hj).1
                  obtain ⟨u', hu', h1, _⟩ := hg.rep j news[j] (List.getElem?_eq_getElem hlt)
                  rw [hj] at hu'
                  cases hu'
                  exact h1
                have hst := run_storeCells_at P (C.σ id) (ad + l * P.cellsOf e) e' us.toList 0 arr C.w hw (by rw [Nat.add_zero]; exact hfit) hone
                simp only [Nat.add_zero] at hst
                have hr := run_append_rooms (P := P) (ty := ty) ht hu hd hi C.w (some ⟨C.σ id, ad, none⟩) l c' n (a.eval y) us (hg.len _) (by rw [← hsz]; exact hg.cells _ rfl) hroom
                  (fun ad' had => by cases had; rw [addr_add, ← hsz]; exact hst) (fun h => by cases h)
                have hsp := splice_size arr (ad + l * P.cellsOf e) us.toList hfit
                have htr := update_tr hm ho hlo hw hsp
                refine ⟨_, _, fun dst g => .inl (hexec _ l c' _ _ hxv hr dst g), update_step (o' := .rich (setAll cs (ad + l * P.cellsOf e) news)) hm ho hlo hw hsp rfl (fun _ => hmo) ?_ hs.k hof, hs.env.mono htr, ?_, rfl⟩
                · refine ⟨_, e', by show (C.w.setRow _ _).heap[_]? = _; rw [setRow_get _ _ _ _ _ hw, if_pos rfl], fun j x hx => ?_⟩
                  have hnl : news.length = us.toList.length := by rw [hg.count, hus]
                  rw [setAll_get] at hx
                  rw [splice_get arr _ us.toList hfit]
                  split at hx
                  · rename_i hj
                    rw [if_pos (by omega)]
                    obtain ⟨u, hu', h1, hr'⟩ := hg.rep _ x hx
                    exact ⟨u, by rw [Array.getElem?_toList]; exact hu', h1, hr'.mono htr⟩
                  · rename_i hj
                    have hj2 : j < cs.length := (List.getElem?_eq_some_iff.1 hx).1
                    rw [if_neg (by omega)]
                    obtain ⟨u, hu', h1, hr'⟩ := hcs j x hx
                    exact ⟨u, hu', h1, hr'.mono htr⟩
                · refine .osl0 id ad _ _ _ c' ad _ e' hid (by omega) (fun k hk => by cases hk; rfl) (.inl rfl) (by show (C.w.setRow _ _).heap[_]? = _; rw [setRow_get _ _ _ _ _ hw, if_pos rfl]) (by rw [hsp]; exact hss)
              · exfalso; omega
            · cases h
          · cases h
      · rename_i hno
        split at h
        · rename_i hsz'
          subst hsz'
          have hgt : c < l + n := by
            rcases Nat.lt_or_ge c (l + n) with h1 | h1
            · exact h1
            · exact absurd ⟨rfl, h1⟩ hno
          cases hol : elemsR s.mem (P.cellsOf e) (.osl id off (P.cellsOf e) l (some c)) with
          | none => simp [hol] at h
          | some pp =>
            obtain ⟨l', old⟩ := pp
            simp only [hol] at h
            split at h
            · rename_i hbd
              simp only [fresh, Option.some.injEq, Prod.mk.injEq] at h
              obtain ⟨rfl, rfl⟩ := h
              have hax0 := hax
              rw [heq] at hax0
              have hll : l' = l := by
                unfold elemsR at hol
                dsimp only at hol
                split at hol
                · simp only [Option.map_eq_some_iff] at hol; obtain ⟨_, _, h⟩ := hol; cases h; rfl
                · simp only [Option.map_eq_some_iff] at hol; obtain ⟨_, _, h⟩ := hol; cases h; rfl
                · cases hol
              subst hll
              obtain ⟨olds, hg2⟩ := givenR_of (P := P) hm hax0 hol
              rw [heq] at hax
              generalize hxv : a.eval x = v at hax hg2
              cases hax with
              | osl _ _ _ _ _ c' ad arr e' hid hl hk' ha hw hss =>
                have hcc := hk' c rfl
                subst hcc
                have hr := run_append_grows (P := P) (ty := ty) ht hu hd hi hzi C.w (some ⟨C.σ id, ad, none⟩) l' c' n (a.eval y) olds us (hg.len _) (by rw [← hsz]; exact hg.cells _ rfl) (by rw [← hsz]; exact hg2.cells _ rfl) hgt (by rw [← hby]; exact hbd) (by rw [← hby]; exact hb0)
                generalize hrest : Builtin.zeroCells z.cells (grownCap C.w (l' + n) c' e - (l' + n)) = rest at hr
                have htr := more_tr (w1 := C.w.drew) hm rfl (.cells (olds ++ us ++ rest) e (0, 0))
                refine ⟨_, C.more C.w.drew (.cells (olds ++ us ++ rest) e), fun dst g => .inl (hexec _ l' c' _ _ hxv hr dst g), more_step (w1 := C.w.drew) hm rfl rfl rfl rfl _ _ ?_ hs.k, hs.env.mono htr, ?_, rfl⟩
                · refine ⟨olds ++ us ++ rest, e, ?_, rich_grown htr (rest := []) hg2.rep (by rw [hg2.count, hg2.size]) hg.rep (fun j hj => ?_) (fun j hj => ?_)⟩
                  · simp only [Cx.more, if_true]
                    rw [alloc_get, if_pos (show C.w.heap.size = C.w.drew.heap.size from rfl)]
                  · rw [Array.append_assoc, Array.getElem?_append_left hj]
                  · rw [Array.append_assoc, Array.getElem?_append_right (by omega), Array.getElem?_append_left (by omega)]
                    congr 1; omega
                · have hge := grownCap_ge C.w (l' + n) c' e
                  rw [hlen]
                  refine more_osl (w1 := C.w.drew) rfl _ e (grown_fits (by assumption) hb0) (fun k hk => by cases hk) (.inr ?_)
                  have hrs : rest.size = (grownCap C.w (l' + n) c' e - (l' + n)) * P.cellsOf e := by rw [← hrest, zeroCells_size, hzs]
                  rw [Array.size_append, Array.size_append, hg2.size, hg.size, hrs, ← Nat.add_mul, ← Nat.add_mul]
                  exact Nat.le_of_eq (by congr 1; omega)
            · cases h
        · cases h
    · cases h
theorem y_appendX (hs : SRep num C s a) {t u e : TypeId} {d : TypeDesc} {x y : Operand} {x' y' : Src} (ht : P.underlying t = some (.slice e)) (hu : P.underlying u = some d) (hd : notIntD d = true) (hk : known P e = true) (h0 : 0 < P.cellsOf e) (hb0 : 0 < P.bytesOf e)
    (hz : zeroOk P e = true) (hx : trSrc num x = some x') (hy : trSrc num y = some y') {r : AV} {s' : St} (h : exAppendX s (P.cellsOf e) (P.bytesOf e) (s.env.ev x') (s.env.ev y') = some (r, s')) :
    Yields num P (.call { callee := .builtin .append, args := #[x, y], argTypes := #[t, u] }) ty pos after a C s r s' := by
  unfold exAppendX at h
  split at h
  · rename_i q hq
    cases h
    exact y_append hs ht hu hd hk h0 hb0 hz hx hy hq
  · exact y_appendR hs ht hu hd hk h0 hb0 hz hx hy h
end
end Go.EX


set_option linter.unusedVariables false
set_option linter.unusedSimpArgs false
namespace Go.EX
section
variable {num : Names} {P : Program}
variable {ty : TypeId} {pos : String} {after : Array Edge} {a : Act} {C : Cx} {s : St}
theorem flat_some {t : TypeId} {ks : List Nat} (h : flatStruct P t = some ks) : ∃ fs, P.underlying t = some (.struct fs) ∧ P.stoodInHeld t = false ∧ P.eqGuardType P.depth t = false ∧ (∀ f ∈ fs.toList, f.name ≠ "_") ∧ fs.toList.map (·.offset) = List.range fs.size ∧ fs.toList.mapM (fun f => kindOf (P.underlying f.type)) = some ks := by
  unfold flatStruct at h
  split at h
  · rename_i fs ht
    split at h
    · rename_i hc
      simp only [Bool.and_eq_true, Bool.not_eq_true', beq_iff_eq] at hc
      obtain ⟨⟨⟨h1, h2⟩, h3⟩, h4⟩ := hc
      refine ⟨fs, ht, h1, h2, fun f hf => ?_, h4, h⟩
      rw [Array.all_eq_true_iff_forall_mem] at h3
      have := h3 f (by simpa using hf)
      simpa using this
    · cases h
  · cases h
theorem run_part_plain {t : TypeId} {k0 : Nat} (ht : kindOf (P.underlying t) = some k0) {us : Array Value} {k : Nat} {u : Value} (hu : us[k]? = some u) (w : World) : (part t us k).run P w = .ok u w := by
  have : (isAgg t).run P w = .ok false w := by
    unfold kindOf at ht
    split at ht <;> first | (rename_i h; simp [isAgg, run_underlying h]) | cases ht
  simp [part, this, hu]
theorem same_fields (d : Nat) {us vs : Array Value} (w : World) : ∀ (fs : List Field) (ks : List Nat) (k : Nat) (xs ys : List AV) (b : Bool), fs.map (·.offset) = List.range' k fs.length → (∀ f ∈ fs, f.name ≠ "_") → fs.mapM (fun f => kindOf (P.underlying f.type)) = some ks →
    (∀ (j : Nat) x, xs[j]? = some x → ∃ u, us[k + j]? = some u ∧ ARep num C x u) → (∀ (j : Nat) x, ys[j]? = some x → ∃ u, vs[k + j]? = some u ∧ ARep num C x u) →
    sameCells ks xs ys = some b → (Op.eqFields (d + 1) us vs fs).run P w = .ok b w
  | [], ks, k, xs, ys, b, _, _, hk, _, _, h => by
    simp at hk
    subst hk
    unfold sameCells at h
    split at h <;> simp_all
    rfl
  | f :: fs, ks, k, xs, ys, b, ho, hp, hk, hx, hy, h => by
    simp only [List.mapM_cons, Option.bind_eq_bind, Option.bind_eq_some_iff, Option.pure_def, Option.some.injEq] at hk
    obtain ⟨k0, hk0, ks', hks, rfl⟩ := hk
    have hoff : f.offset = k := by
      simp only [List.map_cons, List.length_cons, List.range'_succ, List.cons.injEq] at ho
      exact ho.1
    have ho' : fs.map (·.offset) = List.range' (k + 1) fs.length := by
      simp only [List.map_cons, List.length_cons, List.range'_succ, List.cons.injEq] at ho
      exact ho.2
    have hn := hp f (by simp)
    have go : ∀ x xs' y ys' q b', xs = x :: xs' → ys = y :: ys' → (∀ u v, ARep num C x u → ARep num C y v → (Op.equalIn (d + 1) f.type u v).run P w = .ok q w) → sameCells ks' xs' ys' = some b' → (Op.eqFields (d + 1) us vs (f :: fs)).run P w = .ok (q && b') w := by
      rintro x xs' y ys' q b' rfl rfl hq hb'
      obtain ⟨u, hu, hur⟩ := hx 0 x rfl
      obtain ⟨v, hv, hvr⟩ := hy 0 y rfl
      simp only [Nat.add_zero] at hu hv
      have e := same_fields d w fs ks' (k + 1) xs' ys' b' ho' (fun g hg => hp g (by simp [hg])) hks
        (fun j z hz => by have := hx (j + 1) z (by simpa using hz); rwa [show k + (j + 1) = k + 1 + j by omega] at this)
        (fun j z hz => by have := hy (j + 1) z (by simpa using hz); rwa [show k + (j + 1) = k + 1 + j by omega] at this) hb'
      simp only [Op.eqFields]
      rw [if_pos hn]
      simp only [hoff, Sem.run_bind, run_part_plain hk0 hu, run_part_plain hk0 hv, Result.andThen_ok, hq u v hur hvr]
      cases q
      · simp
      · simp [e]
    unfold sameCells at h
    split at h
    · simp_all
    · rename_i ks2 k1 i1 xs2 k2 j1 ys2 heq
      cases heq
      split at h
      · rename_i hkk
        subst hkk
        cases hs : sameCells ks' xs2 ys2 with
        | none => simp [hs] at h
        | some b' =>
          simp [hs] at h
          subst h
          refine go _ _ _ _ _ b' rfl rfl (fun u v hur hvr => ?_) hs
          have := rep_val hur; subst this
          have := rep_val hvr; subst this
          unfold kindOf at hk0
          split at hk0 <;> first | (cases hk0; done) | skip
          rename_i kk hk
          exact run_equalIn_int w d f.type k1 kk i1 j1 hk
      · cases h
    · rename_i ks2 i1 xs2 j1 ys2 heq
      cases heq
      cases hs : sameCells ks' xs2 ys2 with
      | none => simp [hs] at h
      | some b' =>
        simp [hs] at h
        subst h
        refine go _ _ _ _ _ b' rfl rfl (fun u v hur hvr => ?_) hs
        have := rep_val hur; subst this
        have := rep_val hvr; subst this
        unfold kindOf at hk0
        split at hk0 <;> first | (cases hk0; done) | skip
        rename_i hk
        exact Go.run_equalIn_bool w d f.type i1 j1 hk
    · rename_i ks2 i1 xs2 j1 ys2 heq
      cases heq
      cases hs : sameCells ks' xs2 ys2 with
      | none => simp [hs] at h
      | some b' =>
        simp [hs] at h
        subst h
        refine go _ _ _ _ _ b' rfl rfl (fun u v hur hvr => ?_) hs
        have := rep_val hur; subst this
        have := rep_val hvr; subst this
        unfold kindOf at hk0
        split at hk0 <;> first | (cases hk0; done) | skip
        rename_i hk
        rw [run_equalIn_string w d f.type i1 j1 hk, ← beq_toListBytes]
    · cases h
theorem y_eqCells (hs : SRep num C s a) {t yt : TypeId} {ks : List Nat} {x y : Operand} {x' y' : Src} {neg : Bool} (hx : trSrc num x = some x') (hy : trSrc num y = some y') (hf : flatStruct P t = some ks) {xs ys : List AV} (h1 : s.env.ev x' = .agg xs) (h2 : s.env.ev y' = .agg ys) {b : Bool} (hb : sameCells ks xs ys = some b) :
    Yields num P (.binOp (if neg then .neq else .eql) t x y yt) ty pos after a C s (.imm (.val (.bool (if neg then !b else b)))) s := by
  obtain ⟨fs, ht, hst, hg, hn, ho, hk⟩ := flat_some hf
  have hax := src_rep hs hx
  have hay := src_rep hs hy
  rw [h1] at hax
  rw [h2] at hay
  generalize hu : a.eval x = u at hax
  generalize hv : a.eval y = v at hay
  cases hax with
  | agg _ us hul hu1 hur =>
    cases hay with
    | agg _ vs hvl hv1 hvr =>
      have hfo : P.fieldsOf t = fs := by simp [Program.fieldsOf, ht]
      have get : ∀ (l : List AV) (arr : Array Value), l.length = arr.size → (∀ (j : Nat) (x : AV) (u : Value), l[j]? = some x → arr[j]? = some u → ARep num C x u) → ∀ (j : Nat) x, l[j]? = some x → ∃ u, arr[0 + j]? = some u ∧ ARep num C x u := by
        intro l arr hl hr j x hx
        have hj : j < arr.size := by rw [← hl]; exact (List.getElem?_eq_some_iff.1 hx).1
        exact ⟨arr[j], by simp [hj], hr j x _ hx (by simp [hj])⟩
      have hrun : (Op.equalIn 10000 t (.agg us) (.agg vs)).run P C.w = .ok b C.w := by
        rw [show (10000 : Nat) = 9999 + 1 from rfl, run_equalIn_struct C.w 9999 t us vs (by rw [hfo]; exact ht) hst, hfo]
        refine same_fields 9998 C.w fs.toList ks 0 xs ys b ?_ hn hk (get xs us hul hur) (get ys vs hvl hvr) hb
        rw [ho, List.range_eq_range', Array.length_toList]
      refine yields_pure (v := .bool (if neg then !b else b)) hs (fun _ _ => ?_) (.imm _ _ (.val _ rfl))
      cases neg
      · simp only [execOp, hu, hv, Sem.run_bind, Bool.false_eq_true, if_false, run_eqGuard_agg C.w _ t x y us vs hg, Result.andThen_ok, run_eql_struct, hrun]
        rfl
      · simp only [execOp, hu, hv, Sem.run_bind, if_true, run_eqGuard_agg C.w _ t x y us vs hg, Result.andThen_ok, run_neq_struct, hrun]
        rfl
end
end Go.EX


set_option linter.unusedVariables false
set_option linter.unusedSimpArgs false
namespace Go.EX
section
variable {num : Names} {P : Program}
variable {ty : TypeId} {pos : String} {after : Array Edge} {a : Act} {C : Cx} {s : St}
def Callable (P : Program) (f : FuncId) : Prop := ∃ fn, P.funcs[f]? = some fn ∧ fn.name ≠ "runtime.NumGoroutine" ∧ fn.body.isSome = true
def ExtOK (num : Names) (P : Program) (call : Calls') : Prop :=
  ∀ f args m r m' C (vals : Array Value), call (num f) args m = some (r, m') → MRep num C m → args.length = vals.size → (∀ (j : Nat) (x : AV) (u : Value), args[j]? = some x → vals[j]? = some u → ARep num C x u) →
    Callable P f ∧ Calls P f vals C.w (fun e w' => ∃ v D, e = .returned v ∧ D.w = w' ∧ Step num m.length C m D m' ∧ ARep num D r v)
structure CallOK (num : Names) (P : Program) (call : Calls') : Prop where
  fn : ExtOK num P call
  yld : ∀ args m r m' C (l : Nat) (vals : Array Value), call yieldNo args m = some (r, m') → MRep num C m → args.length = vals.size + 1 → (∀ x, args[0]? = some x → ARep num C x (.func (.yield l) #[] #[])) →
    (∀ (j : Nat) (x : AV) (u : Value), args[j + 1]? = some x → vals[j]? = some u → ARep num C x u) →
    ∃ fn tmps assign body, (Instr.yield l vals).run P C.w = .ok (.round l fn tmps assign body) C.w ∧
      RoundIn Fence.wide 0 P l fn tmps assign body C.w (fun e w' => ∃ v D, e = .returned v ∧ D.w = w' ∧ Step num m.length C m D m' ∧ ARep num D r v)
  seat : ∀ e n off, liesB P e n off = true → num.B e n off
  byte : ∀ e, isU8 P e = true → P.cellsOf e = 1 → num.U e
def CallsTo (num : Names) (P : Program) (op : Op) (ty : TypeId) (pos : String) (after : Array Edge) (a : Act) (C : Cx) (s : St) (x : AV) (s' : St) : Prop :=
  ∃ f vals, (∀ dst g, (execOp a.eval ⟨dst, op, ty, pos, after, g⟩).run P C.w = .ok (.enter f vals) C.w) ∧
    Calls P f vals C.w (fun e w' => ∃ v D, e = .returned v ∧ D.w = w' ∧ Step num s.k C s.mem D s'.mem ∧ ERep num D s'.env a.tmps ∧ ARep num D x v ∧ s'.k = s.k)
def GoesRound (num : Names) (P : Program) (op : Op) (ty : TypeId) (pos : String) (after : Array Edge) (a : Act) (C : Cx) (s : St) (x : AV) (s' : St) : Prop :=
  ∃ l fn tmps assign body, (∀ dst g, (execOp a.eval ⟨dst, op, ty, pos, after, g⟩).run P C.w = .ok (.round l fn tmps assign body) C.w) ∧
    RoundIn Fence.wide 0 P l fn tmps assign body C.w (fun e w' => ∃ v D, e = .returned v ∧ D.w = w' ∧ Step num s.k C s.mem D s'.mem ∧ ERep num D s'.env a.tmps ∧ ARep num D x v ∧ s'.k = s.k)
theorem ext_tr {m : Mem} (hm : MRep num C m) {w' : World} {J : Nat → Prop} (hk : ∀ b, b < C.w.heap.size → w'.heap[b]? = C.w.heap[b]?) (hI : ∀ b, C.I b → J b) : Tr some C { σ := C.σ, I := J, n := C.n, w := w' } := by
  refine ⟨hI, fun b hb => hk b (hm.bd b hb), fun i j hi hj => ?_⟩
  cases hj
  exact ⟨hi, rfl, fun _ _ h => h.same (hk _ h.lt)⟩
theorem ext_step {m : Mem} (hm : MRep num C m) {w' : World} {J : Nat → Prop} (hos : w'.os = C.w.os) (htp : w'.tape = C.w.tape) (hout : w'.output = C.w.output) (hsize : C.w.heap.size ≤ w'.heap.size) (hk : ∀ b, b < C.w.heap.size → w'.heap[b]? = C.w.heap[b]?)
    (hI : ∀ b, C.I b → J b) (hI' : ∀ b, J b → C.I b ∨ C.w.heap.size ≤ b) (hbd : ∀ b, J b → b < w'.heap.size) {k : Nat} (hkm : k ≤ m.length) : Step num k C m { σ := C.σ, I := J, n := C.n, w := w' } m := by
  have ht := ext_tr hm hk hI
  have hown : ∀ b, Own { σ := C.σ, I := J, n := C.n, w := w' } m b → Own C m b := fun b h => h
  refine ⟨⟨hm.len, fun i o ho => ?_, hm.inj, fun b hb hJ => ?_, hbd, num.up hm.glo ht.imm ht.keep⟩, hos, htp, hout, hsize, fun b hb _ => hk b hb, fun _ _ _ h => h.same (hk _ h.lt), hI, fun b hb => ?_, fun b hb => .inr (hown b hb), fun i _ o' ho hmv => ⟨o', ho, hmv, rfl⟩, hkm⟩
  · have hob := hm.obj i o ho
    exact orep_mono ht rfl (fun x h => by show w'.heap[_]? = _; rw [hk _ (Array.getElem?_eq_some_iff.1 h).1]; exact h) hob
  · rcases hI' b hJ with h | h
    · exact hm.imm b hb h
    · have := MRep.lt num hm hb; omega
  · rcases hI' b hb with h | h
    · exact .inl h
    · exact .inr (.inl h)
theorem frz_flat (m : Mem) (n : Nat) (x : IV) : frzV m n (.imm x) = some x := by cases n <;> rfl
theorem mapM_get {α β : Type} (f : α → Option β) : ∀ (l : List α) (r : List β), l.mapM f = some r → r.length = l.length ∧ ∀ (j : Nat) y, r[j]? = some y → ∃ x, l[j]? = some x ∧ f x = some y
  | [], r, h => by simp at h; subst h; exact ⟨rfl, fun j y hy => by simp at hy⟩
  | x :: l, r, h => by
    simp only [List.mapM_cons, Option.bind_eq_bind, Option.bind_eq_some_iff, Option.pure_def, Option.some.injEq] at h
    obtain ⟨y, hy, r', hr, rfl⟩ := h
    obtain ⟨h1, h2⟩ := mapM_get f l r' hr
    refine ⟨by simp [h1], fun j z hz => ?_⟩
    cases j with
    | zero => simp at hz; subst hz; exact ⟨x, rfl, hy⟩
    | succ j => simp at hz; obtain ⟨q, h3, h4⟩ := h2 j z hz; exact ⟨q, by simpa using h3, h4⟩
def Cx.view (C : Cx) (m : Mem) (num : Names) : Cx := { σ := C.σ, I := fun b => C.I b ∨ Own C m b, n := 0, w := C.w }
theorem view_rep {m : Mem} (hm : MRep num C m) : MRep num (C.view m num) [] :=
  ⟨rfl, fun i o h => by simp at h, fun i j o p h => by simp at h, fun b ⟨i, o, h, _⟩ => by simp at h, fun b hb => by
    rcases hb with h | h
    · exact hm.bd b h
    · exact MRep.lt num hm h, num.up hm.glo (fun b h => .inl h) fun _ _ => rfl⟩
theorem frzV_rep {m : Mem} (hm : MRep num C m) : ∀ (n : Nat) (x : AV) (y : IV) (v : Value), frzV m n x = some y → ARep num C x v → IRep (C.view m num).I C.w y v
  | n, .imm x, y, v, h, hx => by
    rw [frz_flat] at h
    cases h
    cases hx with | imm _ _ hx => exact hx.mono (fun _ h => .inl h) (fun _ _ => rfl)
  | 0, .osl .., y, v, h, hx => by cases h
  | 0, .optr .., y, v, h, hx => by cases h
  | n, .omap .., y, v, h, hx => by cases n <;> cases h
  | n, .clo .., y, v, h, hx => by cases n <;> cases h
  | n, .agg .., y, v, h, hx => by cases n <;> cases h
  | n, .tup .., y, v, h, hx => by cases n <;> cases h
  | n, .yld .., y, v, h, hx => by cases n <;> cases h
  | n, .seat .., y, v, h, hx => by cases n <;> cases h
  | n, .junk, y, v, h, hx => by cases n <;> cases h
  | n + 1, .osl id off sz len cap, y, v, h, hx => by
    simp only [frzV] at h
    cases hx with
    | osl _ _ _ _ _ c ad arr0 e0 hid hl hk ha hw hs =>
      split at h
      · rename_i cs mv ho
        cases h
        obtain ⟨arr, e, h1, h2⟩ := hm.obj id _ ho
        have hget : ∀ (j : Nat) x, cs[j]? = some x → C.w.cell? ⟨C.σ id, 0 + j, none⟩ = some (arr.getD j undef) ∧ IRep C.I C.w x (arr.getD j undef) := by
          intro j x hx
          obtain ⟨u, hu, hr⟩ := h2 j x hx
          have : arr.getD j undef = u := by simp [Array.getD_eq_getD_getElem?, hu]
          rw [this]
          exact ⟨by rw [cell_of_row C.w _ _ arr e _ h1, Nat.zero_add]; exact hu, hr⟩
        exact .slice cs off len cap (C.σ id) 0 c ad (fun j => arr.getD j undef) (.inr ⟨id, _, ho, rfl, rfl⟩) (fun j x hx => (hget j x hx).1) (fun j x hx => (hget j x hx).2.mono (fun _ h => .inl h) (fun _ _ => rfl)) hl.1 hk (by rw [Nat.zero_add]; exact ha)
      · rename_i cs ho
        simp only [Option.map_eq_some_iff] at h
        obtain ⟨row, hrow, rfl⟩ := h
        obtain ⟨arr, e, h1, h2⟩ := hm.obj id _ ho
        obtain ⟨_, h4⟩ := mapM_get _ _ _ hrow
        have hget : ∀ (j : Nat) x, row[j]? = some x → C.w.cell? ⟨C.σ id, 0 + j, none⟩ = some (arr.getD j undef) ∧ IRep (C.view m num).I C.w x (arr.getD j undef) := by
          intro j x hx
          obtain ⟨q, hq, hf⟩ := h4 j x hx
          obtain ⟨u, hu, _, hr⟩ := h2 j q hq
          have : arr.getD j undef = u := by simp [Array.getD_eq_getD_getElem?, hu]
          rw [this]
          exact ⟨by rw [cell_of_row C.w _ _ arr e _ h1, Nat.zero_add]; exact hu, frzV_rep hm n q x u hf hr⟩
        exact .slice row off len cap (C.σ id) 0 c ad (fun j => arr.getD j undef) (.inr ⟨id, _, ho, rfl, rfl⟩) (fun j x hx => (hget j x hx).1) (fun j x hx => (hget j x hx).2) hl.1 hk (by rw [Nat.zero_add]; exact ha)
      · cases h
  | n + 1, .optr id off, y, v, h, hx => by
    simp only [frzV] at h
    cases hx with
    | optr _ _ hid =>
      split at h
      · rename_i cs mv ho
        cases h
        obtain ⟨arr, e, h1, h2⟩ := hm.obj id _ ho
        have hget : ∀ (j : Nat) x, cs[j]? = some x → C.w.cell? ⟨C.σ id, 0 + j, none⟩ = some (arr.getD j undef) ∧ IRep C.I C.w x (arr.getD j undef) := by
          intro j x hx
          obtain ⟨u, hu, hr⟩ := h2 j x hx
          have : arr.getD j undef = u := by simp [Array.getD_eq_getD_getElem?, hu]
          rw [this]
          exact ⟨by rw [cell_of_row C.w _ _ arr e _ h1, Nat.zero_add]; exact hu, hr⟩
        have := IRep.ptr (I := (C.view m num).I) (w := C.w) cs off (C.σ id) 0 (fun j => arr.getD j undef) (.inr ⟨id, _, ho, rfl, rfl⟩) (fun j x hx => (hget j x hx).1) (fun j x hx => (hget j x hx).2.mono (fun _ h => .inl h) (fun _ _ => rfl))
        rwa [Nat.zero_add] at this
      · rename_i cs ho
        simp only [Option.map_eq_some_iff] at h
        obtain ⟨row, hrow, rfl⟩ := h
        obtain ⟨arr, e, h1, h2⟩ := hm.obj id _ ho
        obtain ⟨_, h4⟩ := mapM_get _ _ _ hrow
        have hget : ∀ (j : Nat) x, row[j]? = some x → C.w.cell? ⟨C.σ id, 0 + j, none⟩ = some (arr.getD j undef) ∧ IRep (C.view m num).I C.w x (arr.getD j undef) := by
          intro j x hx
          obtain ⟨q, hq, hf⟩ := h4 j x hx
          obtain ⟨u, hu, _, hr⟩ := h2 j q hq
          have : arr.getD j undef = u := by simp [Array.getD_eq_getD_getElem?, hu]
          rw [this]
          exact ⟨by rw [cell_of_row C.w _ _ arr e _ h1, Nat.zero_add]; exact hu, frzV_rep hm n q x u hf hr⟩
        have := IRep.ptr (I := (C.view m num).I) (w := C.w) row off (C.σ id) 0 (fun j => arr.getD j undef) (.inr ⟨id, _, ho, rfl, rfl⟩) (fun j x hx => (hget j x hx).1) (fun j x hx => (hget j x hx).2)
        rwa [Nat.zero_add] at this
      · cases h
theorem frz_agg {m : Mem} (hm : MRep num C m) {k : Nat} {cells : List AV} {l : List IV} {v : Value} (h : cells.mapM (frzV m k) = some l) (hx : ARep num C (.agg cells) v) (D : Cx) (hI : ∀ b, (C.view m num).I b → D.I b) (hw : D.w = C.w) : ARep num D (.agg (l.map .imm)) v := by
  cases hx with
  | agg _ vs hl h1 hr =>
    obtain ⟨h2, h3⟩ := mapM_get _ _ _ h
    refine .agg _ vs (by rw [List.length_map, h2]; exact hl) h1 fun j x u hx hu => ?_
    rw [List.getElem?_map] at hx
    cases hq : l[j]? with
    | none => simp [hq] at hx
    | some y =>
      simp [hq] at hx
      subst hx
      obtain ⟨q, h4, h5⟩ := h3 j y hq
      exact .imm _ _ ((frzV_rep hm k q y u h5 (hr j q u h4 hu)).mono hI (fun b _ => by rw [hw]))
theorem frz_rep {m : Mem} (hm : MRep num C m) {x y : AV} {v : Value} (h : frz m x = some y) (hx : ARep num C x v) (D : Cx) (hI : ∀ b, (C.view m num).I b → D.I b) (hw : D.w = C.w) : ARep num D y v := by
  have one : ∀ z, (frzV m 20 x).map AV.imm = some z → ARep num D z v := by
    intro z hz
    simp only [Option.map_eq_some_iff] at hz
    obtain ⟨i, hi, rfl⟩ := hz
    exact .imm _ _ ((frzV_rep hm 20 x i v hi hx).mono hI (fun b _ => by rw [hw]))
  unfold frz at h
  split at h
  · rename_i cells
    simp only [Option.map_eq_some_iff] at h
    obtain ⟨l, hl, rfl⟩ := h
    exact frz_agg hm hl hx D hI hw
  · rename_i vs
    simp only [Option.map_eq_some_iff] at h
    obtain ⟨l, hl, rfl⟩ := h
    cases hx with
    | tup _ us hlen hr =>
      obtain ⟨h2, h3⟩ := mapM_get _ _ _ hl
      refine .tup _ us (by rw [h2]; exact hlen) fun j x u hx hu => ?_
      obtain ⟨q, h4, h5⟩ := h3 j x hx
      have hq := hr j q u h4 hu
      unfold frz.frz1 at h5
      split at h5
      · simp only [Option.map_eq_some_iff] at h5
        obtain ⟨l', hl', rfl⟩ := h5
        exact frz_agg hm hl' hq D hI hw
      · simp only [Option.map_eq_some_iff] at h5
        obtain ⟨i, hi, rfl⟩ := h5
        exact .imm _ _ ((frzV_rep hm 20 q i u hi hq).mono hI (fun b _ => by rw [hw]))
  · rename_i fn caps
    simp only [Option.map_eq_some_iff] at h
    obtain ⟨l, hl, rfl⟩ := h
    cases hx with
    | clo g _ us hlen hr =>
      obtain ⟨h2, h3⟩ := mapM_get _ _ _ hl
      refine .clo g _ us (by rw [h2]; exact hlen) fun j x u hx hu => ?_
      obtain ⟨q, h4, h5⟩ := h3 j x hx
      have hq := hr j q u h4 hu
      unfold frz.frzC at h5
      split at h5
      · cases h5
        exact hq.tr (f := fun _ => none) ⟨fun b hb => hI b (.inl hb), fun b _ => by rw [hw], fun id j _ hj => by cases hj⟩
      · simp only [Option.map_eq_some_iff] at h5
        obtain ⟨i, hi, rfl⟩ := h5
        exact .imm _ _ ((frzV_rep hm 20 q i u hi hq).mono hI (fun b _ => by rw [hw]))
  · exact one _ h
theorem frz_imm {m : Mem} {x y : AV} (hi : x.isImm = true) (h : frz m x = some y) : y = x := by
  unfold AV.isImm at hi
  split at hi
  · rename_i z
    simp [frz, frz_flat] at h
    exact h.symm
  · rename_i cells
    obtain ⟨xs, hxs⟩ := Option.isSome_iff_exists.1 hi
    have := imms_get cells xs hxs
    subst this
    simp only [frz] at h
    have hm : ∀ l : List IV, (l.map AV.imm).mapM (frzV m 20) = some l := by
      intro l
      induction l with
      | nil => rfl
      | cons z l ih => simp [frz_flat, ih]
    rw [hm] at h
    exact (Option.some.inj h).symm
  · cases hi
theorem imm_any {x : AV} (hi : x.isImm = true) {v : Value} (hx : ARep num C x v) (D : Cx) (hI : ∀ b, C.I b → D.I b) (hw : D.w = C.w) : ARep num D x v := by
  unfold AV.isImm at hi
  split at hi
  · cases hx with | imm _ _ h => exact .imm _ _ (h.mono hI (fun b _ => by rw [hw]))
  · rename_i cells
    obtain ⟨xs, hxs⟩ := Option.isSome_iff_exists.1 hi
    have := imms_get cells xs hxs
    subst this
    cases hx with
    | agg _ vs hl h1 hr =>
      refine .agg _ vs hl h1 fun j x u hx hu => ?_
      have hr' := hr j x u hx hu
      rw [List.getElem?_map] at hx
      cases hq : xs[j]? with
      | none => simp [hq] at hx
      | some y => simp [hq] at hx; subst hx; cases hr' with | imm _ _ h => exact .imm _ _ (h.mono hI (fun b _ => by rw [hw]))
  · cases hi
theorem plain1_any {x : AV} (hp : x.plain1 = true) {v : Value} (hx : ARep num C x v) (D : Cx) : ARep num D x v := by
  unfold AV.plain1 at hp
  split at hp
  · cases hx with | imm _ _ h => cases h with | val _ h => exact .imm _ _ (.val _ h)
  · cases hp
theorem plain2_any {x : AV} (hp : x.plain2 = true) {v : Value} (hx : ARep num C x v) (D : Cx) : ARep num D x v := by
  unfold AV.plain2 at hp
  split at hp
  · rename_i cells
    cases hx with
    | agg _ vs hl h1 hr => exact .agg _ vs hl h1 fun j x u hx hu => plain1_any (List.all_eq_true.1 hp x (List.mem_of_getElem? hx)) (hr j x u hx hu) D
  · exact plain1_any hp hx D
theorem plain_any {x : AV} (hp : x.plain = true) {v : Value} (hx : ARep num C x v) (D : Cx) : ARep num D x v := by
  unfold AV.plain at hp
  split at hp
  · rename_i xs
    cases hx with
    | tup _ vs hl hr => exact .tup _ vs hl fun j x u hx hu => plain2_any (List.all_eq_true.1 hp x (List.mem_of_getElem? hx)) (hr j x u hx hu) D
  · exact plain2_any hp hx D
theorem args_frz {m : Mem} (hm : MRep num C m) {args bs : List AV} (h : args.mapM (frz m) = some bs) {vals : Array Value} (hl : args.length = vals.size) (hr : ∀ (j : Nat) (x : AV) (u : Value), args[j]? = some x → vals[j]? = some u → ARep num C x u)
    (D : Cx) (hI : ∀ b, (C.view m num).I b → D.I b) (hw : D.w = C.w) : bs.length = vals.size ∧ ∀ (j : Nat) (x : AV) (u : Value), bs[j]? = some x → vals[j]? = some u → ARep num D x u := by
  obtain ⟨h1, h2⟩ := mapM_get _ _ _ h
  refine ⟨by rw [h1]; exact hl, fun j x u hx hu => ?_⟩
  obtain ⟨q, h3, h4⟩ := h2 j x hx
  exact frz_rep hm h4 (hr j q u h3 hu) D hI hw
theorem args_rep (hs : SRep num C s a) : ∀ (xs : List Operand) (ys : List Src), xs.mapM (trSrc num) = some ys → (ys.map s.env.ev).length = (xs.map a.eval).toArray.size ∧ ∀ (j : Nat) (x : AV) (u : Value), (ys.map s.env.ev)[j]? = some x → (xs.map a.eval).toArray[j]? = some u → ARep num C x u := by
  intro xs ys h
  obtain ⟨h1, h2⟩ := mapM_get _ _ _ h
  refine ⟨by simp [h1], fun j x u hx hu => ?_⟩
  obtain ⟨y, hy, rfl⟩ := map_get _ _ _ _ hx
  obtain ⟨o, ho, ht⟩ := h2 j y hy
  have : u = a.eval o := by simp [ho] at hu; exact hu.symm
  rw [this]
  exact src_rep hs ht
theorem run_call {f : FuncId} (hc : Callable P f) (args : Array Operand) (ats : Array TypeId) (w : World) (dst : Option Tmp) (g : Option (Nat × Bool)) :
    (execOp a.eval ⟨dst, .call { callee := .value (.func f), args := args, argTypes := ats }, ty, pos, after, g⟩).run P w = .ok (.enter f (args.toList.map a.eval).toArray) w := by
  obtain ⟨fn, h1, h2, h3⟩ := hc
  obtain ⟨body, hb⟩ := Option.isSome_iff_exists.1 h3
  have harr : args.map a.eval = (args.toList.map a.eval).toArray := by apply Array.ext'; simp
  simp [execOp, resolve, Deferred.ofValue, Act.eval, invoke, callFunc, h1, h2, hb, harr]
theorem y_view {call : Calls'} (hcall : CallOK num P call) (hs : SRep num C s a) {f : FuncId} {args : Array Operand} {ats : Array TypeId} {ys : List Src} (hy : args.toList.mapM (trSrc num) = some ys) {r : AV} {s' : St} (h : exView call s (num f) (ys.map s.env.ev) = some (r, s')) :
    CallsTo num P (.call { callee := .value (.func f), args := args, argTypes := ats }) ty pos after a C s r s' := by
  have hm := hs.mem
  obtain ⟨hl, hr⟩ := args_rep hs args.toList ys hy
  unfold exView at h
  cases hf : (ys.map s.env.ev).mapM (frz s.mem) with
  | none => simp [hf] at h
  | some bs =>
    simp only [hf] at h
    cases hc : call (num f) bs [] with
    | none => simp [hc] at h
    | some rm =>
      obtain ⟨rv, mc⟩ := rm
      simp only [hc] at h
      split at h
      · rename_i hp
        cases h
        have hvr := view_rep hm
        obtain ⟨h1, h2⟩ := args_frz hm hf hl hr (C.view s.mem num) (fun _ h => h) rfl
        obtain ⟨hcb, hcs⟩ := hcall.fn f bs [] r mc _ _ hc hvr h1 h2
        refine ⟨f, _, fun dst g => run_call hcb args ats C.w dst g, hcs.mono ?_⟩
        rintro e w' ⟨v, D, rfl, rfl, hst, hrv⟩
        have hk : ∀ b, b < C.w.heap.size → D.w.heap[b]? = C.w.heap[b]? := fun b hb => hst.keep b hb fun ⟨i, o, h, _⟩ => by simp at h
        have htr := ext_tr (J := C.I) hm hk (fun _ h => h)
        have hext := ext_step (J := C.I) hm hst.os hst.tape hst.out hst.size hk (fun _ h => h) (fun _ h => .inl h) (fun b hb => Nat.lt_of_lt_of_le (hm.bd b hb) hst.size) hs.k
        exact ⟨v, { σ := C.σ, I := C.I, n := C.n, w := D.w }, rfl, rfl, hext, hs.env.mono htr, plain_any hp hrv _, rfl⟩
      · split at h
        · rename_i _ himm
          simp only [Option.map_eq_some_iff, Prod.mk.injEq] at h
          obtain ⟨r', hr', rfl, rfl⟩ := h
          let C0 : Cx := { σ := C.σ, I := C.I, n := 0, w := C.w }
          have hC0 : MRep num C0 [] := ⟨rfl, fun i o h => by simp at h, fun i j o p h => by simp at h, fun b ⟨i, o, h, _⟩ => by simp at h, hm.bd, hm.glo⟩
          obtain ⟨h1, h2⟩ := mapM_get _ _ _ hf
          have h3 : ∀ (j : Nat) (x : AV) (u : Value), bs[j]? = some x → (args.toList.map a.eval).toArray[j]? = some u → ARep num C0 x u := by
            intro j x u hx hu
            obtain ⟨q, hq, hfq⟩ := h2 j x hx
            have hqi := List.all_eq_true.1 himm q (List.mem_of_getElem? hq)
            have := frz_imm hqi hfq
            subst this
            exact imm_any hqi (hr j x u hq hu) C0 (fun _ h => h) rfl
          obtain ⟨hcb, hcs⟩ := hcall.fn f bs [] rv mc C0 _ hc hC0 (by rw [h1]; exact hl) h3
          refine ⟨f, _, fun dst g => run_call hcb args ats C.w dst g, hcs.mono ?_⟩
          rintro e w' ⟨v, D, rfl, rfl, hst, hrv⟩
          have hk : ∀ b, b < C.w.heap.size → D.w.heap[b]? = C.w.heap[b]? := fun b hb => hst.keep b hb fun ⟨i, o, h, _⟩ => by simp at h
          have hJ1 : ∀ b, C.I b → (D.view mc num).I b := fun b hb => .inl (hst.imm b hb)
          have hJ2 : ∀ b, (D.view mc num).I b → C.I b ∨ C.w.heap.size ≤ b := by
            intro b hb
            rcases hb with hb | hb
            · rcases hst.imm' b hb with h | h | ⟨i, o, h, _⟩
              · exact .inl h
              · exact .inr h
              · simp at h
            · rcases hst.own b hb with h | ⟨i, o, h, _⟩
              · exact .inr h
              · simp at h
          have hJ3 : ∀ b, (D.view mc num).I b → b < D.w.heap.size := (view_rep hst.rep).bd
          exact ⟨v, { σ := C.σ, I := (D.view mc num).I, n := C.n, w := D.w }, rfl, rfl, ext_step hm hst.os hst.tape hst.out hst.size hk hJ1 hJ2 hJ3 hs.k, hs.env.mono (ext_tr hm hk hJ1), frz_rep hst.rep hr' hrv _ (fun _ h => h) rfl, rfl⟩
        · cases h
end
end Go.EX


set_option linter.unusedVariables false
set_option linter.unusedSimpArgs false
namespace Go.EX
section
variable {num : Names} {P : Program}
variable {ty : TypeId} {pos : String} {after : Array Edge} {a : Act} {C : Cx} {s : St}
theorem reach_props (m : Mem) : ∀ (n : Nat) (todo acc : List Nat), acc.Nodup → (∀ x ∈ acc, x < m.length) → (reach m n todo acc).Nodup ∧ (∀ x ∈ reach m n todo acc, x < m.length) ∧ ∃ r, reach m n todo acc = acc ++ r
  | 0, todo, acc, h1, h2 => ⟨h1, h2, [], by simp [reach]⟩
  | n + 1, [], acc, h1, h2 => ⟨h1, h2, [], by simp [reach]⟩
  | n + 1, id :: todo, acc, h1, h2 => by
    simp only [reach]
    split
    · exact reach_props m n todo acc h1 h2
    · rename_i hid
      split
      · rename_i hlt
        obtain ⟨h3, h4, r, hr⟩ := reach_props m n (todo ++ ((m[id]?).getD .dead).refs) (acc ++ [id]) (by rw [List.nodup_append]; exact ⟨h1, by simp, by intro x hx y hy; simp at hy; subst hy; intro e; subst e; exact hid hx⟩) (by
          intro x hx
          rw [List.mem_append] at hx
          rcases hx with hx | hx
          · exact h2 x hx
          · simp at hx; subst hx; exact hlt)
        exact ⟨h3, h4, id :: r, by rw [hr]; simp⟩
      · exact reach_props m n todo acc h1 h2
theorem order_props {k : Nat} {roots : List Nat} {m : Mem} (hk : k ≤ m.length) : (order k roots m).Nodup ∧ (∀ x ∈ order k roots m, x < m.length) ∧ ∃ r, order k roots m = List.range k ++ r :=
  reach_props m 1000000000000 _ _ List.nodup_range (fun x hx => by rw [List.mem_range] at hx; omega)
theorem place_get : ∀ (l : List Nat) (id i : Nat), place l id = some i → l[i]? = some id
  | [], id, i, h => by cases h
  | x :: l, id, i, h => by
    simp only [place] at h
    split at h
    · rename_i e; cases h; simp [e]
    · simp only [Option.map_eq_some_iff] at h
      obtain ⟨j, hj, rfl⟩ := h
      simp [place_get l id j hj]
theorem place_of : ∀ (l : List Nat) (id i : Nat), l.Nodup → l[i]? = some id → place l id = some i
  | [], id, i, _, h => by simp at h
  | x :: l, id, i, hn, h => by
    rw [List.nodup_cons] at hn
    simp only [place]
    cases i with
    | zero => simp at h; rw [if_pos h.symm]
    | succ i =>
      simp at h
      have : id ≠ x := fun e => hn.1 (e ▸ List.mem_of_getElem? h)
      rw [if_neg this, place_of l id i hn.2 h]
      rfl
theorem place_none {l : List Nat} {id : Nat} (h : id ∉ l) : place l id = none := by
  cases hp : place l id with
  | none => rfl
  | some i => exact absurd (List.mem_of_getElem? (place_get l id i hp)) h
def Cx.pick (C : Cx) (l : List Nat) : Cx := { σ := fun i => C.σ (l.getD i 0), I := C.I, n := l.length, w := C.w }
theorem pick_σ {l : List Nat} {i id : Nat} (h : l[i]? = some id) : (C.pick l).σ i = C.σ id := by simp [Cx.pick, List.getD, h]
theorem pick_tr (l : List Nat) : Tr (place l) C (C.pick l) := by
  refine ⟨fun _ h => h, fun _ _ => rfl, fun id j _ hj => ?_⟩
  have := place_get l id j hj
  exact ⟨(List.getElem?_eq_some_iff.1 this).1, pick_σ this, fun _ _ h => h⟩
theorem pick_get {m : Mem} {l : List Nat} {i : Nat} {p : AObj} (h : (m.pickAll l)[i]? = some p) : ∃ id, l[i]? = some id ∧ p = ((m[id]?).getD .dead).ren (place l) := by
  obtain ⟨id, h1, h2⟩ := map_get _ _ _ _ h
  exact ⟨id, h1, h2⟩
theorem getD_live {m : Mem} {id : Nat} (h : ((m[id]?).getD .dead).live = true) : ∃ o, m[id]? = some o ∧ (m[id]?).getD .dead = o := by
  cases hq : m[id]? with
  | none => rw [hq] at h; cases h
  | some o => exact ⟨o, rfl, rfl⟩
theorem getD_moved {m : Mem} {id : Nat} (h : ((m[id]?).getD .dead).moved = false) : ∃ o, m[id]? = some o ∧ (m[id]?).getD .dead = o := by
  cases hq : m[id]? with
  | none => rw [hq] at h; cases h
  | some o => exact ⟨o, rfl, rfl⟩
theorem pick_own {m : Mem} {l : List Nat} {b : Nat} (h : Own (C.pick l) (m.pickAll l) b) : ∃ id o, id ∈ l ∧ m[id]? = some o ∧ o.live = true ∧ C.σ id = b := by
  obtain ⟨i, p, hp, hl, hb⟩ := h
  obtain ⟨id, h1, rfl⟩ := pick_get hp
  rw [ren_live] at hl
  obtain ⟨o, ho, he⟩ := getD_live hl
  rw [he] at hl
  exact ⟨id, o, List.mem_of_getElem? h1, ho, hl, by rw [← pick_σ h1]; exact hb⟩
theorem pick_rep {m : Mem} (hm : MRep num C m) {l : List Nat} (hn : l.Nodup) : MRep num (C.pick l) (m.pickAll l) := by
  refine ⟨by simp [Mem.pickAll, Cx.pick], fun i p hp => ?_, fun i j p q hp hq hlp hlq he => ?_, fun b hb hI => ?_, hm.bd, hm.glo⟩
  · obtain ⟨id, h1, rfl⟩ := pick_get hp
    cases hq : m[id]? with
    | none => trivial
    | some o => exact orep_tr (pick_tr l) (pick_σ h1) (fun _ h => h) (hm.obj id o hq)
  · obtain ⟨id, h1, rfl⟩ := pick_get hp
    obtain ⟨id2, h2, rfl⟩ := pick_get hq
    rw [ren_live] at hlp hlq
    obtain ⟨o, ho, he1⟩ := getD_live hlp
    obtain ⟨o2, ho2, he2⟩ := getD_live hlq
    rw [he1] at hlp
    rw [he2] at hlq
    rw [pick_σ h1, pick_σ h2] at he
    rcases hm.inj id id2 o o2 ho ho2 hlp hlq he with this | htw
    · subst this
      have e1 := place_of l id i hn h1
      have e2 := place_of l id j hn h2
      rw [e1] at e2
      exact .inl (Option.some.inj e2)
    · rw [twin_ren, he1, he2]
      exact .inr htw
  · obtain ⟨id, o, _, ho, hl, hb⟩ := pick_own hb
    exact hm.imm b ⟨id, o, ho, hl, hb⟩ hI
theorem pick_step {m : Mem} (hm : MRep num C m) {k : Nat} (hk : k ≤ m.length) (roots : List Nat) : Step num k C m (C.pick (order k roots m)) (m.pickAll (order k roots m)) := by
  obtain ⟨h1, h2, r, hr⟩ := order_props (roots := roots) hk
  have hk' : ∀ i, i < k → (order k roots m)[i]? = some i := by
    intro i hi
    rw [hr, List.getElem?_append_left (by simpa using hi), List.getElem?_range hi]
  have hown : ∀ b, Own (C.pick (order k roots m)) (m.pickAll (order k roots m)) b → Own C m b := by
    intro b hb
    obtain ⟨id, o, _, ho, hl, hb⟩ := pick_own hb
    exact ⟨id, o, ho, hl, hb⟩
  refine ⟨pick_rep hm h1, rfl, rfl, rfl, Nat.le_refl _, fun _ _ _ => rfl, fun _ _ _ h => h, fun _ h => h, fun _ h => .inl h, fun b hb => .inr (hown b hb), fun i hi p hp hmv => ?_, by rw [Mem.pickAll, List.length_map, hr]; simp⟩
  obtain ⟨id, h3, rfl⟩ := pick_get hp
  rw [hk' i hi] at h3
  cases h3
  rw [ren_moved] at hmv
  obtain ⟨o, ho, he⟩ := getD_moved hmv
  rw [he] at hmv
  exact ⟨o, ho, hmv, pick_σ (hk' i hi)⟩
theorem tidy_rep (hs : SRep num C s a) (keep : List Nat) : ∃ D, D.w = C.w ∧ SRep num D (s.tidy keep) a ∧ Step num s.k C s.mem D (s.tidy keep).mem ∧ (s.tidy keep).k = s.k := by
  unfold St.tidy
  split
  · exact ⟨C, rfl, ⟨hs.mem, hs.env.keep keep, hs.k⟩, .refl hs.mem hs.k, rfl⟩
  · have hst := pick_step hs.mem hs.k (Env.roots (s.env.keep keep))
    exact ⟨C.pick (order s.k (Env.roots (s.env.keep keep)) s.mem), rfl, ⟨hst.rep, (hs.env.keep keep).tr (pick_tr _), hst.len⟩, hst, rfl⟩
theorem args_ren {f : Nat → Option Nat} {D : Cx} (t : Tr f C D) {args : List AV} {vals : Array Value} (hl : args.length = vals.size) (hr : ∀ (j : Nat) (x : AV) (u : Value), args[j]? = some x → vals[j]? = some u → ARep num C x u) :
    (AV.ren.renL f args).length = vals.size ∧ ∀ (j : Nat) (x : AV) (u : Value), (AV.ren.renL f args)[j]? = some x → vals[j]? = some u → ARep num D x u := by
  refine ⟨by rw [renL_length]; exact hl, fun j x u hx hu => ?_⟩
  rw [renL_get] at hx
  cases hq : args[j]? with
  | none => simp [hq] at hx
  | some y => simp [hq] at hx; subst hx; exact (hr j y u hq hu).tr t
theorem orMoved_live (o : AObj) (b : Bool) : (o.orMoved b).live = o.live := by cases o <;> rfl
theorem orMoved_moved (o : AObj) (b : Bool) (h : (o.orMoved b).moved = false) : o.moved = false := by
  cases o with
  | flat cs m => simp [AObj.orMoved, AObj.moved] at h ⊢; exact h.1
  | rich => rfl
  | map => rfl
  | dead => cases h
  | fix cs m op => simp [AObj.orMoved, AObj.moved] at h ⊢; exact h.1
  | loop => rfl
  | text => rfl
theorem orMoved_rep {D : Cx} {id : Nat} {o : AObj} (b : Bool) (h : ORep num D id o) : ORep num D id (o.orMoved b) := by cases o <;> exact h
theorem orMoved_no (o : AObj) : o.orMoved false = o := by cases o <;> simp [AObj.orMoved]
theorem mem_place {l : List Nat} (hn : l.Nodup) {id : Nat} (h : id ∈ l) : ∃ i, place l id = some i := by
  obtain ⟨i, hi⟩ := List.getElem?_of_mem h
  exact ⟨i, place_of l id i hn hi⟩
theorem shareOk_no {m : Mem} {l : List Nat} (h : shareOk m l = true) {i j : Nat} (hi : i ∈ l) (hj : j ∉ l) {o p : AObj} (ho : m[i]? = some o) (hp : m[j]? = some p) (ht : o.twin p) : False := by
  simp only [shareOk, Bool.or_eq_true, List.all_eq_true, Bool.not_eq_true', List.mem_range, List.contains_iff_mem] at h
  rcases h with h | h
  · have := h i hi
    rw [ho, Option.getD_some, (twin_fix ht).1] at this; cases this
  · rcases h j (List.getElem?_eq_some_iff.1 hp).1 with h' | h'
    · exact hj h'
    · rw [hp, Option.getD_some, (twin_fix ht).2] at h'; cases h'
def Cx.back (C D : Cx) (l : List Nat) (n' : Nat) : Cx :=
  { σ := fun id => match place l id with | some i => D.σ i | none => if id < C.n then C.σ id else D.σ (l.length + (id - C.n)), I := D.I, n := C.n + (n' - l.length), w := D.w }
theorem share_back {call : Calls'} (hs : SRep num C s a) {fn : Nat} {args : List AV} {vals : Array Value} (hl : args.length = vals.size) (hr : ∀ (j : Nat) (x : AV) (u : Value), args[j]? = some x → vals[j]? = some u → ARep num C x u)
    {r : AV} {s' : St} (h : exShare call s fn args = some (r, s')) :
    ∃ l rv mc, call fn (AV.ren.renL (place l) args) (s.mem.pickAll l) = some (rv, mc) ∧ MRep num (C.pick l) (s.mem.pickAll l) ∧ (AV.ren.renL (place l) args).length = vals.size ∧
      (∀ (j : Nat) (x : AV) (u : Value), (AV.ren.renL (place l) args)[j]? = some x → vals[j]? = some u → ARep num (C.pick l) x u) ∧
      ∀ v D, Step num (s.mem.pickAll l).length (C.pick l) (s.mem.pickAll l) D mc → ARep num D rv v → ∃ E, E.w = D.w ∧ Step num s.k C s.mem E s'.mem ∧ ERep num E s'.env a.tmps ∧ ARep num E r v ∧ s'.k = s.k := by
  have hm := hs.mem
  have hlen := hm.len
  unfold exShare at h
  dsimp only at h
  obtain ⟨hnd, hlt, _⟩ := order_props (k := 0) (roots := AV.refs.refsL args) (m := s.mem) (Nat.zero_le _)
  generalize hlo : order 0 (AV.refs.refsL args) s.mem = l at h hnd hlt
  split at h
  · cases h
  rename_i hokn
  have hok : shareOk s.mem l = true := by simpa using hokn
  have notin : ∀ {id : Nat}, place l id = none → id ∉ l := fun hp hmem => by
    obtain ⟨i, hi⟩ := mem_place hnd hmem
    rw [hi] at hp; cases hp
  cases hc : call fn (AV.ren.renL (place l) args) (s.mem.pickAll l) with
  | none => simp [hc] at h
  | some rm =>
    obtain ⟨rv, mc⟩ := rm
    simp only [hc, Option.some.injEq, Prod.mk.injEq] at h
    obtain ⟨hrr, hss⟩ := h
    obtain ⟨hl1, hr1⟩ := args_ren (pick_tr l) hl hr
    refine ⟨l, rv, mc, hc, pick_rep hm hnd, hl1, hr1, fun v D hst hrv => ?_⟩
    have hpl : (s.mem.pickAll l).length = l.length := by simp [Mem.pickAll]
    rw [hpl] at hst
    have hDn := hst.rep.len
    have hkl := hst.len
    let E := C.back D l mc.length
    have hEn : E.n = C.n + (mc.length - l.length) := rfl
    have hEI : E.I = D.I := rfl
    have hEw : E.w = D.w := rfl
    let back : Nat → Option Nat := fun i => if i < l.length then l[i]? else some (s.mem.length + (i - l.length))
    let stay : Nat → Option Nat := fun id => match place l id with
      | some i => if ((mc[i]?).getD .dead).moved then none else some id
      | none => some id
    have hEσ1 : ∀ id i, place l id = some i → E.σ id = D.σ i := by
      intro id i hp
      show (match place l id with | some i => D.σ i | none => _) = _
      rw [hp]
    have hEσ2 : ∀ id, place l id = none → id < C.n → E.σ id = C.σ id := by
      intro id hp hid
      show (match place l id with | some i => D.σ i | none => if id < C.n then C.σ id else _) = _
      rw [hp]
      simp [hid]
    have hnew : ∀ i, l.length ≤ i → place l (s.mem.length + (i - l.length)) = none := fun i _ => place_none fun hmem => by have := hlt _ hmem; omega
    have hEσ3 : ∀ i, l.length ≤ i → E.σ (s.mem.length + (i - l.length)) = D.σ i := by
      intro i hi
      show (match place l (s.mem.length + (i - l.length)) with | some i => D.σ i | none => if _ < C.n then _ else D.σ (l.length + (s.mem.length + (i - l.length) - C.n))) = _
      rw [hnew i hi]
      have : ¬ (s.mem.length + (i - l.length) < C.n) := by omega
      simp only [this, if_false]
      congr 1
      omega
    have tback : Tr back D E := by
      refine ⟨fun _ h => h, fun _ _ => rfl, fun i j hi hj => ?_⟩
      simp only [back] at hj
      split at hj
      · rename_i hil
        have hp := place_of l j i hnd hj
        have hjm := hlt j (List.mem_of_getElem? hj)
        exact ⟨by rw [hEn]; omega, hEσ1 j i hp, fun _ _ h => h⟩
      · rename_i hil
        cases hj
        exact ⟨by rw [hEn]; omega, hEσ3 i (by omega), fun _ _ h => h⟩
    have tstay : Tr stay C E := by
      refine ⟨hst.imm, fun b hb => ?_, fun id j hid hj => ?_⟩
      · exact hst.keep b (hm.bd b hb) fun ho => by
          obtain ⟨id, o, _, ho, hlv, hb'⟩ := pick_own ho
          exact hm.imm b ⟨id, o, ho, hlv, hb'⟩ hb
      · have hsz : ∀ n e, RowAt C.w (C.σ id) n e → RowAt (E.w) (C.σ id) n e := hst.sz _
        simp only [stay] at hj
        split at hj
        · rename_i i hp
          split at hj
          · cases hj
          · rename_i hmv
            cases hj
            have hmv' : ((mc[i]?).getD .dead).moved = false := by simpa using hmv
            obtain ⟨o', ho', he⟩ := getD_moved hmv'
            rw [he] at hmv'
            have hil : i < l.length := (List.getElem?_eq_some_iff.1 (place_get l id i hp)).1
            obtain ⟨_, _, _, hσ⟩ := hst.same i hil o' ho' hmv'
            exact ⟨by rw [hEn]; omega, by rw [hEσ1 id i hp, hσ, pick_σ (place_get l id i hp)], hsz⟩
        · rename_i hp
          cases hj
          exact ⟨by rw [hEn]; omega, hEσ2 id hp hid, hsz⟩
    have hmem : s'.mem = (List.range (s.mem.length + (mc.length - l.length))).map (shareAt s l mc back stay) := congrArg St.mem hss.symm
    have hget : ∀ (id : Nat) p, s'.mem[id]? = some p → id < s.mem.length + (mc.length - l.length) ∧ p = shareAt s l mc back stay id := by
      intro id p hp
      rw [hmem] at hp
      obtain ⟨q, hq, rfl⟩ := map_get _ _ _ _ hp
      have hlt' : id < s.mem.length + (mc.length - l.length) := by have := (List.getElem?_eq_some_iff.1 hq).1; simpa using this
      rw [List.getElem?_range hlt'] at hq
      cases hq
      exact ⟨hlt', rfl⟩
    have hcase : ∀ (id : Nat) p, s'.mem[id]? = some p → (∃ i, place l id = some i ∧ p = (((mc[i]?).getD .dead).ren back).orMoved (((s.mem[id]?).getD .dead).moved)) ∨
        (place l id = none ∧ id < s.mem.length ∧ p = ((s.mem[id]?).getD .dead).ren stay) ∨ (∃ i, l.length ≤ i ∧ i < mc.length ∧ id = s.mem.length + (i - l.length) ∧ p = ((mc[i]?).getD .dead).ren back) := by
      intro id p hp
      obtain ⟨h1, rfl⟩ := hget id p hp
      unfold shareAt
      cases hpl : place l id with
      | some i => exact .inl ⟨i, rfl, rfl⟩
      | none =>
        by_cases hid : id < s.mem.length
        · exact .inr (.inl ⟨rfl, hid, by simp [hid]⟩)
        · refine .inr (.inr ⟨l.length + (id - s.mem.length), by omega, by omega, by omega, by simp [hid]⟩)
    have hobj : ∀ (id : Nat) p, s'.mem[id]? = some p → ORep num E id p := by
      intro id p hp
      rcases hcase id p hp with ⟨i, hpl', rfl⟩ | ⟨hpl', hid, rfl⟩ | ⟨i, hi, hi2, rfl, rfl⟩
      · refine orMoved_rep _ ?_
        cases hq : mc[i]? with
        | none => trivial
        | some o => exact orep_tr tback (hEσ1 id i hpl') (fun _ h => h) (hst.rep.obj i o hq)
      · cases hq : s.mem[id]? with
        | none => trivial
        | some o =>
          by_cases hlv : o.live = true
          · refine orep_tr tstay (hEσ2 id hpl' (by omega)) (fun x h => ?_) (hm.obj id o hq)
            show D.w.heap[C.σ id]? = _
            rw [hst.keep _ (Array.getElem?_eq_some_iff.1 h).1 fun ho => ?_]
            · exact h
            · obtain ⟨id2, o2, hmem2, ho2, hlv2, hb⟩ := pick_own ho
              rcases hm.inj id2 id o2 o ho2 hq hlv2 hlv hb with this | htw
              · subst this
                exact notin hpl' hmem2
              · exact shareOk_no hok hmem2 (notin hpl') ho2 hq htw
          · cases o with
            | dead => trivial
            | _ => exact absurd rfl hlv
      · cases hq : mc[i]? with
        | none => trivial
        | some o => exact orep_tr tback (hEσ3 i hi) (fun _ h => h) (hst.rep.obj i o hq)
    have hblock : ∀ (id : Nat) p, s'.mem[id]? = some p → p.live = true → (∃ i o, mc[i]? = some o ∧ o.live = true ∧ E.σ id = D.σ i ∧ (place l id = some i ∨ (l.length ≤ i ∧ id = s.mem.length + (i - l.length))) ∧ ∃ f b, p = (o.ren f).orMoved b) ∨ (∃ o, place l id = none ∧ s.mem[id]? = some o ∧ o.live = true ∧ E.σ id = C.σ id ∧ ∃ f b, p = (o.ren f).orMoved b) := by
      intro id p hp hlv
      rcases hcase id p hp with ⟨i, hpl', rfl⟩ | ⟨hpl', hid, rfl⟩ | ⟨i, hi, hi2, rfl, rfl⟩
      · rw [orMoved_live, ren_live] at hlv
        obtain ⟨o, ho, he⟩ := getD_live hlv
        rw [he] at hlv
        exact .inl ⟨i, o, ho, hlv, hEσ1 id i hpl', .inl hpl', _, _, by rw [he]⟩
      · rw [ren_live] at hlv
        obtain ⟨o, ho, he⟩ := getD_live hlv
        rw [he] at hlv
        exact .inr ⟨o, hpl', ho, hlv, hEσ2 id hpl' (by omega), stay, false, by rw [he, orMoved_no]⟩
      · rw [ren_live] at hlv
        obtain ⟨o, ho, he⟩ := getD_live hlv
        rw [he] at hlv
        exact .inl ⟨i, o, ho, hlv, hEσ3 i hi, .inr ⟨hi, rfl⟩, back, false, by rw [he, orMoved_no]⟩
    have hold : ∀ id o, place l id = none → s.mem[id]? = some o → o.live = true → ¬ Own D mc (C.σ id) := by
      intro id o hp ho hlv hown
      rcases hst.own _ hown with h | h
      · have := MRep.lt num hm ⟨id, o, ho, hlv, rfl⟩
        have : (C.pick l).w.heap.size = C.w.heap.size := rfl
        omega
      · obtain ⟨id2, o2, hmem2, ho2, hlv2, hb⟩ := pick_own h
        rcases hm.inj id2 id o2 o ho2 ho hlv2 hlv hb with this | htw
        · subst this
          exact notin hp hmem2
        · exact shareOk_no hok hmem2 (notin hp) ho2 ho htw
    have hownE : ∀ b, Own E s'.mem b → Own D mc b ∨ Own C s.mem b := by
      rintro b ⟨id, p, hp, hlv, hb⟩
      rcases hblock id p hp hlv with ⟨i, o, ho, hlo, hσ, _⟩ | ⟨o, _, ho, hlo, hσ, _⟩
      · exact .inl ⟨i, o, ho, hlo, by rw [← hσ]; exact hb⟩
      · exact .inr ⟨id, o, ho, hlo, by rw [← hσ]; exact hb⟩
    have hpick : ∀ b, Own (C.pick l) (s.mem.pickAll l) b → Own C s.mem b := by
      intro b hb
      obtain ⟨id, o, _, ho, hlv, hb⟩ := pick_own hb
      exact ⟨id, o, ho, hlv, hb⟩
    refine ⟨E, rfl, ⟨⟨by rw [hmem, hEn]; simp [hlen], hobj, ?_, ?_, hst.rep.bd, hst.rep.glo⟩, hst.os, hst.tape, hst.out, hst.size, fun b hb hno => hst.keep b hb fun ho => hno (hpick b ho), hst.sz, hst.imm, ?_, ?_, ?_, ?_⟩, ?_, ?_, by rw [← hss]⟩
    · intro i j p q hp hq hlp hlq he
      rcases hblock i p hp hlp with ⟨i', o, ho, hlo, hσ, hw1, f1, b1, hpe⟩ | ⟨o, hpn, ho, hlo, hσ, f1, b1, hpe⟩ <;> rcases hblock j q hq hlq with ⟨j', o2, ho2, hlo2, hσ2, hw2, f2, b2, hqe⟩ | ⟨o2, hpn2, ho2, hlo2, hσ2, f2, b2, hqe⟩
      · rw [hσ, hσ2] at he
        rcases hst.rep.inj i' j' o o2 ho ho2 hlo hlo2 he with this | htw
        case inr => right; rw [hpe, hqe, twin_orMoved, twin_ren]; exact htw
        subst this
        left
        rcases hw1 with h1 | ⟨h1, rfl⟩ <;> rcases hw2 with h2 | ⟨h2, rfl⟩
        · have e1 := place_get l i i' h1
          have e2 := place_get l j i' h2
          rw [e1] at e2
          exact Option.some.inj e2
        · have := (List.getElem?_eq_some_iff.1 (place_get l i i' h1)).1; omega
        · have := (List.getElem?_eq_some_iff.1 (place_get l j i' h2)).1; omega
        · rfl
      · exact absurd ⟨i', o, ho, hlo, by rw [← hσ, ← hσ2]; exact he⟩ (hold j o2 hpn2 ho2 hlo2)
      · exact absurd ⟨j', o2, ho2, hlo2, by rw [← hσ2, ← hσ]; exact he.symm⟩ (hold i o hpn ho hlo)
      · rw [hσ, hσ2] at he
        rcases hm.inj i j o o2 ho ho2 hlo hlo2 he with this | htw
        · exact .inl this
        · right; rw [hpe, hqe, twin_orMoved, twin_ren]; exact htw
    · intro b hb hI
      rcases hownE b hb with h | h
      · exact hst.rep.imm b h hI
      · rcases hst.imm' b hI with h' | h' | h'
        · exact hm.imm b h h'
        · have := MRep.lt num hm h
          have : (C.pick l).w.heap.size = C.w.heap.size := rfl
          omega
        ·
          obtain ⟨id, p, hp, hlv, hbq⟩ := hb
          rcases hblock id p hp hlv with ⟨i, o, ho, hlo, hσ, _⟩ | ⟨o, hpn, ho, hlo, hσ, _⟩
          · exact hst.rep.imm b ⟨i, o, ho, hlo, by rw [← hσ]; exact hbq⟩ hI
          · obtain ⟨id2, o2, hmem2, ho2, hlv2, hb2⟩ := pick_own h'
            rcases hm.inj id2 id o2 o ho2 ho hlv2 hlo (by rw [hb2, ← hσ]; exact hbq.symm) with this | htw
            · subst this
              exact notin hpn hmem2
            · exact shareOk_no hok hmem2 (notin hpn) ho2 ho htw
    · intro b hb
      rcases hst.imm' b hb with h | h | h
      · exact .inl h
      · exact .inr (.inl h)
      · exact .inr (.inr (hpick b h))
    · intro b hb
      rcases hownE b hb with h | h
      · rcases hst.own b h with h | h
        · exact .inl h
        · exact .inr (hpick b h)
      · exact .inr h
    · intro id hid p hp hmv
      have hk := hs.k
      rcases hcase id p hp with ⟨i, hpl', rfl⟩ | ⟨hpl', hid', rfl⟩ | ⟨i, hi, hi2, rfl, rfl⟩
      · have h1 := orMoved_moved _ _ hmv
        rw [ren_moved] at h1
        obtain ⟨o', ho', he⟩ := getD_moved h1
        rw [he] at h1
        have hil : i < l.length := (List.getElem?_eq_some_iff.1 (place_get l id i hpl')).1
        obtain ⟨o2, ho2, hmv2, hσ⟩ := hst.same i hil o' ho' h1
        obtain ⟨id2, hid2, hq2⟩ := pick_get ho2
        rw [place_get l id i hpl'] at hid2
        cases hid2
        rw [hq2, ren_moved] at hmv2
        obtain ⟨o3, ho3, he3⟩ := getD_moved hmv2
        rw [he3] at hmv2
        exact ⟨o3, ho3, hmv2, by rw [hEσ1 id i hpl', hσ, pick_σ (place_get l id i hpl')]⟩
      · rw [ren_moved] at hmv
        obtain ⟨o, ho, he⟩ := getD_moved hmv
        rw [he] at hmv
        exact ⟨o, ho, hmv, hEσ2 id hpl' (by omega)⟩
      · omega
    · rw [hmem]; simp; have := hs.k; omega
    · have : s'.env = s.env.ren stay := congrArg St.env hss.symm
      rw [this]
      exact hs.env.tr tstay
    · rw [← hrr]
      exact hrv.tr tback
theorem share_step {call : Calls'} (hcall : CallOK num P call) (hs : SRep num C s a) {f : FuncId} {args : List AV} {vals : Array Value} (hl : args.length = vals.size) (hr : ∀ (j : Nat) (x : AV) (u : Value), args[j]? = some x → vals[j]? = some u → ARep num C x u)
    {r : AV} {s' : St} (h : exShare call s (num f) args = some (r, s')) :
    Callable P f ∧ Calls P f vals C.w (fun e w' => ∃ v D, e = .returned v ∧ D.w = w' ∧ Step num s.k C s.mem D s'.mem ∧ ERep num D s'.env a.tmps ∧ ARep num D r v ∧ s'.k = s.k) := by
  obtain ⟨l, rv, mc, hc, hm, hl1, hr1, hback⟩ := share_back hs hl hr h
  obtain ⟨hcb, hcs⟩ := hcall.fn f _ _ rv mc (C.pick l) vals hc hm hl1 hr1
  refine ⟨hcb, hcs.mono ?_⟩
  rintro e w' ⟨v, D, rfl, rfl, hst, hrv⟩
  obtain ⟨E, h1, h2, h3, h4, h5⟩ := hback v D hst hrv
  exact ⟨v, E, rfl, h1, h2, h3, h4, h5⟩
end
end Go.EX


set_option linter.unusedVariables false
set_option linter.unusedSimpArgs false
namespace Go.EX
section
variable {num : Names} {P : Program}
variable {ty : TypeId} {pos : String} {after : Array Edge} {a : Act} {C : Cx} {s : St}
def Cx.join (C D : Cx) (J : Nat → Prop) (k : Nat) : Cx := { σ := fun i => if i < C.n then C.σ i else D.σ (i - C.n), I := J, n := C.n + k, w := D.w }
theorem join_step {m mc : Mem} (hm : MRep num C m) {C0 D : Cx} (hw0 : C0.w = C.w) (hst : Step num 0 C0 [] D mc) {J : Nat → Prop} (hJ1 : ∀ b, C.I b → J b) (hJ2 : ∀ b, J b → C.I b ∨ C.w.heap.size ≤ b) (hJ3 : ∀ b, J b → b < D.w.heap.size) (hJ4 : ∀ b, Own D mc b → ¬ J b)
    (hobj : ∀ (i : Nat) o, mc[i]? = some o → ORep num (C.join D J mc.length) (C.n + i) (o.ren fun i => some (m.length + i))) {k : Nat} (hk : k ≤ m.length) :
    Step num k C m (C.join D J mc.length) (m ++ mc.map (AObj.ren fun i => some (m.length + i))) ∧ Tr some C (C.join D J mc.length) := by
  have hlen := hm.len
  have hsize : C.w.heap.size ≤ D.w.heap.size := by have := hst.size; rwa [hw0] at this
  have hkeep : ∀ b, b < C.w.heap.size → D.w.heap[b]? = C.w.heap[b]? := by
    intro b hb
    have := hst.keep b (by rw [hw0]; exact hb) fun ⟨i, o, h, _⟩ => by simp at h
    rwa [hw0] at this
  have hownD : ∀ b, Own D mc b → C.w.heap.size ≤ b := by
    intro b hb
    rcases hst.own b hb with h | ⟨i, o, h, _⟩
    · rwa [hw0] at h
    · simp at h
  have hσ1 : ∀ i, i < m.length → (C.join D J mc.length).σ i = C.σ i := fun i hi => by simp only [Cx.join]; rw [if_pos (by omega)]
  have hσ2 : ∀ i, (C.join D J mc.length).σ (m.length + i) = D.σ i := fun i => by simp only [Cx.join]; rw [if_neg (by omega)]; congr 1; omega
  have htr : Tr some C (C.join D J mc.length) := by
    refine ⟨hJ1, fun b hb => hkeep b (hm.bd b hb), fun i j hi hj => ?_⟩
    cases hj
    exact ⟨by simp only [Cx.join]; omega, hσ1 i (by omega), fun _ _ h => h.same (hkeep _ h.lt)⟩
  have split : ∀ (i : Nat) p, (m ++ mc.map (AObj.ren fun i => some (m.length + i)))[i]? = some p → (i < m.length ∧ m[i]? = some p) ∨ ∃ j q, i = m.length + j ∧ mc[j]? = some q ∧ p = q.ren fun i => some (m.length + i) := by
    intro i p hp
    rcases Nat.lt_or_ge i m.length with h | h
    · rw [List.getElem?_append_left h] at hp; exact .inl ⟨h, hp⟩
    · rw [List.getElem?_append_right h] at hp
      obtain ⟨q, hq, rfl⟩ := map_get _ _ _ _ hp
      exact .inr ⟨i - m.length, q, by omega, hq, rfl⟩
  have hownE : ∀ b, Own (C.join D J mc.length) (m ++ mc.map (AObj.ren fun i => some (m.length + i))) b → Own C m b ∨ Own D mc b := by
    rintro b ⟨i, p, hp, hl, hb⟩
    rcases split i p hp with ⟨hi, hp'⟩ | ⟨j, q, rfl, hq, rfl⟩
    · exact .inl ⟨i, p, hp', hl, by rw [← hσ1 i hi]; exact hb⟩
    · rw [ren_live] at hl
      exact .inr ⟨j, q, hq, hl, by rw [← hσ2 j]; exact hb⟩
  refine ⟨⟨⟨by simp [Cx.join, hlen], fun i p hp => ?_, fun i j p q hp hq hlp hlq he => ?_, fun b hb hJ => ?_, hJ3, num.up hm.glo htr.imm htr.keep⟩, by rw [← hw0]; exact hst.os, by rw [← hw0]; exact hst.tape, by rw [← hw0]; exact hst.out, hsize, fun b hb _ => hkeep b hb,
    fun _ _ _ h => h.same (hkeep _ h.lt), hJ1, fun b hb => ?_, fun b hb => ?_, fun i hi p hp hmv => ?_, by simp; omega⟩, htr⟩
  · rcases split i p hp with ⟨hi, hp'⟩ | ⟨j, q, rfl, hq, rfl⟩
    · have hob := hm.obj i p hp'
      exact orep_mono htr (hσ1 i hi) (fun x h => by show D.w.heap[_]? = _; rw [hkeep _ (Array.getElem?_eq_some_iff.1 h).1]; exact h) hob
    · have := hobj j q hq
      rwa [← hlen] at this
  · rcases split i p hp with ⟨hi, hp'⟩ | ⟨i', p', rfl, hp', rfl⟩ <;> rcases split j q hq with ⟨hj, hq'⟩ | ⟨j', q', rfl, hq', rfl⟩
    · rw [hσ1 i hi, hσ1 j hj] at he; exact hm.inj i j p q hp' hq' hlp hlq he
    · rw [ren_live] at hlq
      rw [hσ1 i hi, hσ2] at he
      have h1 := MRep.lt num hm ⟨i, p, hp', hlp, rfl⟩
      have h2 := hownD _ ⟨j', q', hq', hlq, rfl⟩
      omega
    · rw [ren_live] at hlp
      rw [hσ1 j hj, hσ2] at he
      have h1 := MRep.lt num hm ⟨j, q, hq', hlq, rfl⟩
      have h2 := hownD _ ⟨i', p', hp', hlp, rfl⟩
      omega
    · rw [ren_live] at hlp hlq
      rw [hσ2, hσ2] at he
      rw [twin_ren]
      rcases hst.rep.inj i' j' p' q' hp' hq' hlp hlq he with h | h
      · exact .inl (by rw [h])
      · exact .inr h
  · rcases hownE b hb with h | h
    · rcases hJ2 b hJ with h' | h'
      · exact hm.imm b h h'
      · have := MRep.lt num hm h; omega
    · exact hJ4 b h hJ
  · rcases hJ2 b hb with h | h
    · exact .inl h
    · exact .inr (.inl h)
  · rcases hownE b hb with h | h
    · exact .inr h
    · exact .inl (hownD b h)
  · rcases split i p hp with ⟨hi', hp'⟩ | ⟨j, q, rfl, _, _⟩
    · exact ⟨p, hp', hmv, hσ1 i hi'⟩
    · omega
theorem own1_ren {D E : Cx} {f : Nat → Option Nat} (h : ∀ id j, id < D.n → f id = some j → j < E.n ∧ E.σ j = D.σ id ∧ ∀ n e, RowAt D.w (D.σ id) n e → RowAt (E.w) (D.σ id) n e)
    {x : AV} (ho : x.own1 = true) {v : Value} (hx : ARep num D x v) : ARep num E (x.ren f) v := by
  unfold AV.own1 at ho
  split at ho
  · exact plain1_any rfl hx E
  · rename_i id off sz len cap
    cases hx with
    | osl _ _ _ _ _ c a arr e hid hl hk ha hw hs =>
      simp only [AV.ren]
      cases hf : f id with
      | none => exact .junk _
      | some j =>
        obtain ⟨h1, h2, h3⟩ := h id j hid hf
        have h4 := h3 arr e hw
        dsimp only
        rw [← h2] at h4 ⊢
        exact .osl j off sz len cap c a arr e h1 hl hk ha h4 hs
  · rename_i id off
    cases hx with
    | optr _ _ hid =>
      simp only [AV.ren]
      cases hf : f id with
      | none => exact .junk _
      | some j =>
        obtain ⟨h1, h2, _⟩ := h id j hid hf
        dsimp only
        rw [← h2]
        exact .optr j off h1
  · cases ho
theorem own2_ren {D E : Cx} {f : Nat → Option Nat} (h : ∀ id j, id < D.n → f id = some j → j < E.n ∧ E.σ j = D.σ id ∧ ∀ n e, RowAt D.w (D.σ id) n e → RowAt (E.w) (D.σ id) n e)
    {x : AV} (ho : x.own2 = true) {v : Value} (hx : ARep num D x v) : ARep num E (x.ren f) v := by
  unfold AV.own2 at ho
  split at ho
  · rename_i cells
    cases hx with
    | agg _ vs hl h1 hr =>
      simp only [AV.ren]
      refine .agg _ vs (by rw [renL_length]; exact hl) h1 fun j x u hx hu => ?_
      rw [renL_get] at hx
      cases hq : cells[j]? with
      | none => simp [hq] at hx
      | some y => simp [hq] at hx; subst hx; exact own1_ren h (List.all_eq_true.1 ho y (List.mem_of_getElem? hq)) (hr j y u hq hu)
  · exact own1_ren h ho hx
theorem own_ren {D E : Cx} {f : Nat → Option Nat} (h : ∀ id j, id < D.n → f id = some j → j < E.n ∧ E.σ j = D.σ id ∧ ∀ n e, RowAt D.w (D.σ id) n e → RowAt (E.w) (D.σ id) n e)
    {x : AV} (ho : x.own = true) {v : Value} (hx : ARep num D x v) : ARep num E (x.ren f) v := by
  unfold AV.own at ho
  split at ho
  · rename_i xs
    cases hx with
    | tup _ vs hl hr =>
      simp only [AV.ren]
      refine .tup _ vs (by rw [renL_length]; exact hl) fun j x u hx hu => ?_
      rw [renL_get] at hx
      cases hq : xs[j]? with
      | none => simp [hq] at hx
      | some y => simp [hq] at hx; subst hx; exact own2_ren h (List.all_eq_true.1 ho y (List.mem_of_getElem? hq)) (hr j y u hq hu)
  · exact own2_ren h ho hx
theorem y_own {call : Calls'} (hcall : CallOK num P call) (hs : SRep num C s a) {f : FuncId} {args : Array Operand} {ats : Array TypeId} {ys : List Src} (hy : args.toList.mapM (trSrc num) = some ys) {r : AV} {s' : St} (h : exOwn call s (num f) (ys.map s.env.ev) = some (r, s')) :
    CallsTo num P (.call { callee := .value (.func f), args := args, argTypes := ats }) ty pos after a C s r s' := by
  have hm := hs.mem
  have hlen := hm.len
  obtain ⟨hl, hr⟩ := args_rep hs args.toList ys hy
  unfold exOwn at h
  cases hf : (ys.map s.env.ev).mapM (frz s.mem) with
  | none => simp [hf] at h
  | some bs =>
    simp only [hf] at h
    cases hc : call (num f) bs [] with
    | none => simp [hc] at h
    | some rm =>
      obtain ⟨rv, mc⟩ := rm
      simp only [hc] at h
      split at h
      · rename_i hcond
        simp only [Option.some.injEq, Prod.mk.injEq] at h
        obtain ⟨rfl, rfl⟩ := h
        by_cases himm : (ys.map s.env.ev).all AV.isImm = true
        · let C0 : Cx := { σ := C.σ, I := C.I, n := 0, w := C.w }
          have hC0 : MRep num C0 [] := ⟨rfl, fun i o h => by simp at h, fun i j o p h => by simp at h, fun b ⟨i, o, h, _⟩ => by simp at h, hm.bd, hm.glo⟩
          obtain ⟨h1, h2⟩ := mapM_get _ _ _ hf
          have h3 : ∀ (j : Nat) (x : AV) (u : Value), bs[j]? = some x → (args.toList.map a.eval).toArray[j]? = some u → ARep num C0 x u := by
            intro j x u hx hu
            obtain ⟨q, hq, hfq⟩ := h2 j x hx
            have hqi := List.all_eq_true.1 himm q (List.mem_of_getElem? hq)
            have := frz_imm hqi hfq
            subst this
            exact imm_any hqi (hr j x u hq hu) C0 (fun _ h => h) rfl
          obtain ⟨hcb, hcs⟩ := hcall.fn f bs [] rv mc C0 _ hc hC0 (by rw [h1]; exact hl) h3
          refine ⟨f, _, fun dst g => run_call hcb args ats C.w dst g, hcs.mono ?_⟩
          rintro e w' ⟨v, D, rfl, rfl, hst, hrv⟩
          have hDn := hst.rep.len
          have tup : Tr (fun i => some (s.mem.length + i)) D (C.join D D.I mc.length) := by
            refine ⟨fun _ h => h, fun _ _ => rfl, fun i j hi hj => ?_⟩
            cases hj
            exact ⟨by simp only [Cx.join]; omega, by simp only [Cx.join]; rw [if_neg (by omega)]; congr 1; omega, fun _ _ h => h⟩
          obtain ⟨hj, ht⟩ := join_step (k := s.k) hm (C0 := C0) rfl hst (J := D.I) hst.imm (fun b hb => by
              rcases hst.imm' b hb with h | h | ⟨i, o, h, _⟩
              · exact .inl h
              · exact .inr h
              · simp at h) hst.rep.bd hst.rep.imm (fun i o ho => orep_tr tup (by simp only [Cx.join]; rw [if_neg (by omega)]; congr 1; omega) (fun _ h => h) (hst.rep.obj i o ho)) hs.k
          exact ⟨v, C.join D D.I mc.length, rfl, rfl, hj, hs.env.mono ht, hrv.tr tup, rfl⟩
        · have hown : rv.own = true ∧ mc.all AObj.own = true := by simpa [himm] using hcond
          have hvr := view_rep hm
          obtain ⟨h1, h2⟩ := args_frz hm hf hl hr (C.view s.mem num) (fun _ h => h) rfl
          obtain ⟨hcb, hcs⟩ := hcall.fn f bs [] rv mc _ _ hc hvr h1 h2
          refine ⟨f, _, fun dst g => run_call hcb args ats C.w dst g, hcs.mono ?_⟩
          rintro e w' ⟨v, D, rfl, rfl, hst, hrv⟩
          have hDn := hst.rep.len
          have hids : ∀ id j, id < D.n → (fun i => some (s.mem.length + i) : Nat → Option Nat) id = some j → j < (C.join D C.I mc.length).n ∧ (C.join D C.I mc.length).σ j = D.σ id ∧ ∀ n e, RowAt D.w (D.σ id) n e → RowAt ((C.join D C.I mc.length).w) (D.σ id) n e := by
            intro i j hi hj
            cases hj
            exact ⟨by simp only [Cx.join]; omega, by simp only [Cx.join]; rw [if_neg (by omega)]; congr 1; omega, fun _ _ h => h⟩
          obtain ⟨hj, ht⟩ := join_step (k := s.k) hm (C0 := C.view s.mem num) rfl hst (J := C.I) (fun _ h => h) (fun _ h => .inl h) (fun b hb => Nat.lt_of_lt_of_le (hm.bd b hb) hst.size) (fun b hb hI => hst.rep.imm b hb (hst.imm b (.inl hI))) (fun i o ho => by
              have hoo := List.all_eq_true.1 hown.2 o (List.mem_of_getElem? ho)
              have hob := hst.rep.obj i o ho
              have hσ : (C.join D C.I mc.length).σ (C.n + i) = D.σ i := by simp only [Cx.join]; rw [if_neg (by omega)]; congr 1; omega
              cases o with
              | flat cs mv =>
                obtain ⟨arr, e, h1, h2⟩ := hob
                refine ⟨arr, e, by rw [hσ]; exact h1, fun j x hx => ?_⟩
                obtain ⟨u, hu, hr'⟩ := h2 j x hx
                have hp := List.all_eq_true.1 hoo x (List.mem_of_getElem? hx)
                cases x with
                | val z => cases hr' with | val _ h => exact ⟨_, hu, .val _ h⟩
                | slice => cases hp
                | ptr => cases hp
              | rich cs =>
                obtain ⟨arr, e, h1, h2⟩ := hob
                refine ⟨arr, e, by rw [hσ]; exact h1, fun j x hx => ?_⟩
                rw [renL_get] at hx
                cases hq : cs[j]? with
                | none => simp [hq] at hx
                | some y =>
                  simp [hq] at hx
                  subst hx
                  obtain ⟨u, hu, h1c, hr'⟩ := h2 j y hq
                  exact ⟨u, hu, h1c, own1_ren hids (List.all_eq_true.1 hoo y (List.mem_of_getElem? hq)) hr'⟩
              | map es => exact absurd hoo (by simp [AObj.own])
              | dead => trivial
              | fix => exact absurd hoo (by simp [AObj.own])
              | loop => exact absurd hoo (by simp [AObj.own])
              | text => exact absurd hoo (by simp [AObj.own])) hs.k
          exact ⟨v, C.join D C.I mc.length, rfl, rfl, hj, hs.env.mono ht, own_ren hids hown.1 hrv, rfl⟩
      · cases h
theorem y_share {call : Calls'} (hcall : CallOK num P call) (hs : SRep num C s a) {f : FuncId} {args : Array Operand} {ats : Array TypeId} {ys : List Src} (hy : args.toList.mapM (trSrc num) = some ys) {r : AV} {s' : St} (h : exShare call s (num f) (ys.map s.env.ev) = some (r, s')) :
    CallsTo num P (.call { callee := .value (.func f), args := args, argTypes := ats }) ty pos after a C s r s' := by
  obtain ⟨hl, hr⟩ := args_rep hs args.toList ys hy
  obtain ⟨hcb, hcs⟩ := share_step hcall hs hl hr h
  exact ⟨f, _, fun dst g => run_call hcb args ats C.w dst g, hcs⟩
theorem y_callV {call : Calls'} (hcall : CallOK num P call) (hs : SRep num C s a) {fo : Operand} {f' : Src} {args : Array Operand} {ats : Array TypeId} {ys : List Src} (hfo : trSrc num fo = some f') (hy : args.toList.mapM (trSrc num) = some ys) {fn : Nat} {caps : List AV} (hf : s.env.ev f' = .clo fn caps) {r : AV} {s' : St}
    (h : exShare call s fn (ys.map s.env.ev ++ caps) = some (r, s')) : CallsTo num P (.call { callee := .value fo, args := args, argTypes := ats }) ty pos after a C s r s' := by
  obtain ⟨hl, hr⟩ := args_rep hs args.toList ys hy
  have h1 := src_rep hs hfo
  rw [hf] at h1
  generalize hu : a.eval fo = u at h1
  cases h1 with
  | clo g _ vs hcl hcr =>
    have hl2 : (ys.map s.env.ev ++ caps).length = ((args.toList.map a.eval).toArray ++ vs).size := by rw [List.length_append, Array.size_append, hl, hcl]
    have hr2 : ∀ (j : Nat) (x : AV) (u : Value), (ys.map s.env.ev ++ caps)[j]? = some x → ((args.toList.map a.eval).toArray ++ vs)[j]? = some u → ARep num C x u := by
      intro j x u hx hu'
      rcases Nat.lt_or_ge j (ys.map s.env.ev).length with hj | hj
      · rw [List.getElem?_append_left hj] at hx
        rw [Array.getElem?_append_left (by rw [← hl]; exact hj)] at hu'
        exact hr j x u hx hu'
      · rw [List.getElem?_append_right hj] at hx
        rw [Array.getElem?_append_right (by rw [← hl]; exact hj), ← hl] at hu'
        exact hcr _ x u hx hu'
    obtain ⟨hcb, hcs⟩ := share_step hcall hs hl2 hr2 h
    refine ⟨g, _, fun dst gd => ?_, hcs⟩
    obtain ⟨fn', e1, e2, e3⟩ := hcb
    obtain ⟨body, hb⟩ := Option.isSome_iff_exists.1 e3
    have harr : args.map a.eval = (args.toList.map a.eval).toArray := by apply Array.ext'; simp
    simp [execOp, resolve, Deferred.ofValue, hu, invoke, callFunc, e1, e2, hb, harr]
theorem y_yield {call : Calls'} (hcall : CallOK num P call) (hs : SRep num C s a) {fo : Operand} {f' : Src} {args : Array Operand} {ats : Array TypeId} {ys : List Src} (hfo : trSrc num fo = some f') (hy : args.toList.mapM (trSrc num) = some ys) {id : Nat} (hf : s.env.ev f' = .yld id) {r : AV} {s' : St}
    (h : exShare call s yieldNo (.yld id :: ys.map s.env.ev) = some (r, s')) : GoesRound num P (.call { callee := .value fo, args := args, argTypes := ats }) ty pos after a C s r s' := by
  obtain ⟨hl, hr⟩ := args_rep hs args.toList ys hy
  have h1 := src_rep hs hfo
  rw [hf] at h1
  generalize hu : a.eval fo = u at h1
  cases h1 with
  | yld _ hid =>
    have hl2 : (AV.yld id :: ys.map s.env.ev).length = (#[Value.func (.yield (C.σ id)) #[] #[]] ++ (args.toList.map a.eval).toArray).size := by
      rw [List.length_cons, Array.size_append, hl]; simp; omega
    have hr2 : ∀ (j : Nat) (x : AV) (u : Value), (AV.yld id :: ys.map s.env.ev)[j]? = some x → (#[Value.func (.yield (C.σ id)) #[] #[]] ++ (args.toList.map a.eval).toArray)[j]? = some u → ARep num C x u := by
      intro j x u hx hu'
      cases j with
      | zero => simp at hx hu'; subst hx hu'; exact .yld id hid
      | succ j =>
        rw [List.getElem?_cons_succ] at hx
        rw [Array.getElem?_append_right (by simp)] at hu'
        exact hr j x u hx (by simpa using hu')
    obtain ⟨l, rv, mc, hc, hm, hl1, hr1, hback⟩ := share_back hs hl2 hr2 h
    obtain ⟨fn, tmps, assign, body, hrun, hround⟩ := hcall.yld _ _ rv mc (C.pick l) (C.σ id) (args.toList.map a.eval).toArray hc hm (by rw [hl1]; simp)
      (fun x hx => hr1 0 x _ hx (by simp)) (fun j x u hx hu' => hr1 (j + 1) x u hx (by rw [Array.getElem?_append_right (by simp)]; simpa using hu'))
    refine ⟨C.σ id, fn, tmps, assign, body, fun dst gd => ?_, hround.mono ?_⟩
    · have harr : args.map a.eval = (args.toList.map a.eval).toArray := by apply Array.ext'; simp
      have hrun' : (Instr.yield (C.σ id) (args.toList.map a.eval).toArray).run P C.w = .ok (.round (C.σ id) fn tmps assign body) C.w := hrun
      simp [execOp, resolve, Deferred.ofValue, hu, invoke, harr, hrun']
    · rintro e w' ⟨v, D, rfl, rfl, hst, hrv⟩
      obtain ⟨E, h1, h2, h3, h4, h5⟩ := hback v D hst hrv
      exact ⟨v, E, rfl, h1, h2, h3, h4, h5⟩
end
end Go.EX


set_option linter.unusedVariables false
set_option linter.unusedSimpArgs false
namespace Go.EX
def sameV : List Nat → List Value → List Value → Option Bool
  | [], [], [] => some true
  | 0 :: ks, .int k a :: xs, .int j b :: ys => if k = j then (sameV ks xs ys).map fun r => a == b && r else none
  | 1 :: ks, .bool a :: xs, .bool b :: ys => (sameV ks xs ys).map fun r => a == b && r
  | 2 :: ks, .string a :: xs, .string b :: ys => (sameV ks xs ys).map fun r => a == b && r
  | _, _, _ => none
theorem sameV_nil {xs ys : List Value} {r : Bool} (h : sameV [] xs ys = some r) : r = true := by
  cases xs <;> cases ys <;> simp [sameV] at h; exact h
theorem sameV_nil' {xs ys : List Value} {r : Bool} (h : sameV [] xs ys = some r) : xs = [] ∧ ys = [] := by
  cases xs <;> cases ys <;> simp [sameV] at h; exact ⟨rfl, rfl⟩
theorem sameV_len : ∀ (ks : List Nat) (xs ys : List Value) (b : Bool), sameV ks xs ys = some b → xs.length = ks.length ∧ ys.length = ks.length
  | ks, xs, ys, b, h => by
    induction ks generalizing xs ys b with
    | nil => unfold sameV at h; split at h <;> simp_all
    | cons k ks ih =>
      unfold sameV at h
      split at h
      · simp_all
      · rename_i heq; cases heq
        split at h
        · simp only [Option.map_eq_some_iff] at h; obtain ⟨r, hr, _⟩ := h; have := ih _ _ _ hr; simp [this]
        · cases h
      · rename_i heq; cases heq; simp only [Option.map_eq_some_iff] at h; obtain ⟨r, hr, _⟩ := h; have := ih _ _ _ hr; simp [this]
      · rename_i heq; cases heq; simp only [Option.map_eq_some_iff] at h; obtain ⟨r, hr, _⟩ := h; have := ih _ _ _ hr; simp [this]
      · cases h
theorem sameCells_vals : ∀ (ks : List Nat) (xs ys : List AV) (b : Bool), sameCells ks xs ys = some b → ∃ cs ds : List Value, xs = cs.map (fun v => AV.imm (.val v)) ∧ ys = ds.map (fun v => AV.imm (.val v)) ∧ sameV ks cs ds = some b
  | ks, xs, ys, b, h => by
    induction ks generalizing xs ys b with
    | nil =>
      cases xs with
      | nil => cases ys with
        | nil => simp [sameCells] at h; exact ⟨[], [], rfl, rfl, by simp [sameV, h]⟩
        | cons => simp [sameCells] at h
      | cons => simp [sameCells] at h
    | cons k ks ih =>
      unfold sameCells at h
      split at h
      · simp_all
      · rename_i heq; cases heq
        split at h
        · rename_i hk
          simp only [Option.map_eq_some_iff] at h; obtain ⟨r, hr, hb⟩ := h
          obtain ⟨cs, ds, rfl, rfl, h3⟩ := ih _ _ _ hr
          exact ⟨_ :: cs, _ :: ds, rfl, rfl, by simp [sameV, hk, h3, hb]⟩
        · cases h
      · rename_i heq; cases heq; simp only [Option.map_eq_some_iff] at h; obtain ⟨r, hr, hb⟩ := h
        obtain ⟨cs, ds, rfl, rfl, h3⟩ := ih _ _ _ hr
        exact ⟨_ :: cs, _ :: ds, rfl, rfl, by simp [sameV, h3, hb]⟩
      · rename_i heq; cases heq; simp only [Option.map_eq_some_iff] at h; obtain ⟨r, hr, hb⟩ := h
        obtain ⟨cs, ds, rfl, rfl, h3⟩ := ih _ _ _ hr
        refine ⟨_ :: cs, _ :: ds, rfl, rfl, ?_⟩
        simp only [sameV, h3, Option.map_some, Option.some.injEq]
        rw [← hb, beq_toListBytes]
      · cases h
theorem sameV_append : ∀ (k1 k2 : List Nat) (xs ys : List Value) (b : Bool), sameV (k1 ++ k2) xs ys = some b → ∃ b1 b2, sameV k1 (xs.take k1.length) (ys.take k1.length) = some b1 ∧ sameV k2 (xs.drop k1.length) (ys.drop k1.length) = some b2 ∧ b = (b1 && b2)
  | k1, k2, xs, ys, b, h => by
    induction k1 generalizing xs ys b with
    | nil => exact ⟨true, b, by simp [sameV], by simpa using h, by simp⟩
    | cons k ks ih =>
      rw [List.cons_append] at h
      unfold sameV at h
      split at h
      · simp_all
      · rename_i heq; cases heq
        split at h
        · rename_i hk
          simp only [Option.map_eq_some_iff] at h; obtain ⟨r, hr, hb⟩ := h
          obtain ⟨b1, b2, h1, h2, h3⟩ := ih _ _ _ hr
          refine ⟨_, b2, by simp only [List.length_cons, List.take_succ_cons, sameV, hk, if_true, h1, Option.map_some]; rfl, by simpa using h2, by rw [← hb, h3, Bool.and_assoc]⟩
        · cases h
      · rename_i heq; cases heq; simp only [Option.map_eq_some_iff] at h; obtain ⟨r, hr, hb⟩ := h
        obtain ⟨b1, b2, h1, h2, h3⟩ := ih _ _ _ hr
        refine ⟨_, b2, by simp only [List.length_cons, List.take_succ_cons, sameV, h1, Option.map_some]; rfl, by simpa using h2, by rw [← hb, h3, Bool.and_assoc]⟩
      · rename_i heq; cases heq; simp only [Option.map_eq_some_iff] at h; obtain ⟨r, hr, hb⟩ := h
        obtain ⟨b1, b2, h1, h2, h3⟩ := ih _ _ _ hr
        refine ⟨_, b2, by simp only [List.length_cons, List.take_succ_cons, sameV, h1, Option.map_some]; rfl, by simpa using h2, by rw [← hb, h3, Bool.and_assoc]⟩
      · cases h
theorem bytes_inj' {a b : ByteArray} (h : (a.toList == b.toList) = true) : b = a := by
  have := beq_iff_eq.1 h
  rw [ByteArray.toList_eq, ByteArray.toList_eq] at this
  cases a; cases b
  simp at this
  exact congrArg ByteArray.mk this.symm
theorem sameV_true : ∀ (ks : List Nat) (xs ys : List Value), sameV ks xs ys = some true → ys = xs ∧ ((xs.zip xs).all fun p => Instr.sameBits 9999 p.1 p.2) = true
  | ks, xs, ys, h => by
    induction ks generalizing xs ys with
    | nil => obtain ⟨rfl, rfl⟩ := sameV_nil' h; exact ⟨rfl, rfl⟩
    | cons k ks ih =>
      unfold sameV at h
      split at h
      · simp_all
      · rename_i heq; cases heq
        split at h
        · rename_i hk; subst hk
          simp only [Option.map_eq_some_iff, Bool.and_eq_true, beq_iff_eq] at h
          obtain ⟨r, hr, rfl, rfl⟩ := h
          obtain ⟨rfl, h2⟩ := ih _ _ hr
          exact ⟨rfl, by simp only [List.zip_cons_cons, List.all_cons, h2, Bool.and_true]; simp [Instr.sameBits]⟩
        · cases h
      · rename_i heq; cases heq
        simp only [Option.map_eq_some_iff, Bool.and_eq_true, beq_iff_eq] at h
        obtain ⟨r, hr, rfl, rfl⟩ := h
        obtain ⟨rfl, h2⟩ := ih _ _ hr
        exact ⟨rfl, by simp only [List.zip_cons_cons, List.all_cons, h2, Bool.and_true]; simp [Instr.sameBits]⟩
      · rename_i heq; cases heq
        simp only [Option.map_eq_some_iff, Bool.and_eq_true] at h
        obtain ⟨r, hr, hb, rfl⟩ := h
        obtain ⟨rfl, h2⟩ := ih _ _ hr
        rw [beq_toListBytes] at hb
        have e := bytes_inj' hb
        subst e
        refine ⟨rfl, by simp only [List.zip_cons_cons, List.all_cons, h2, Bool.and_true]; simp only [Instr.sameBits]; rw [beq_toListBytes]; simp⟩
      · cases h
section
variable {P : Program}
def mkV (P : Program) (t : TypeId) (cs : List Value) : Value :=
  match P.underlying t with
  | some (.struct _) => .agg cs.toArray
  | _ => cs.headD undef
theorem run_part_deep {n : Nat} {t : TypeId} {l : List Nat} (hl : leaves P n t = some l) (hk : known P t = true) (hsz : P.cellsOf t = l.length) {us : Array Value} {k : Nat} (hlen : k + l.length ≤ us.size) (w : World) :
    (part t us k).run P w = .ok (mkV P t ((us.toList.drop k).take l.length)) w := by
  obtain ⟨i, d, hi, hd, hs, _⟩ := known_some hk
  cases n with
  | zero => cases hl
  | succ n =>
    have one : ∀ (hag : (isAgg t).run P w = .ok false w) (hl1 : l.length = 1) (hm : ∀ c : List Value, mkV P t c = c.headD undef), (part t us k).run P w = .ok (mkV P t ((us.toList.drop k).take l.length)) w := by
      intro hag hl1 hm
      have hk' : k < us.size := by omega
      rw [hl1, hm]
      have e : (us.toList.drop k).take 1 = [us[k]] := by
        rw [List.drop_eq_getElem_cons (by simpa using hk')]; simp
      rw [e]
      simp [part, hag, hk']
    unfold leaves at hl
    split at hl
    · rename_i h; cases hl
      exact one (by simp [isAgg, run_underlying h]) rfl (fun c => by simp [mkV, h])
    · rename_i h; cases hl
      exact one (by simp [isAgg, run_underlying h]) rfl (fun c => by simp [mkV, h])
    · rename_i h; cases hl
      exact one (by simp [isAgg, run_underlying h]) rfl (fun c => by simp [mkV, h])
    · rename_i fs h
      have hag : (isAgg t).run P w = .ok true w := by simp [isAgg, run_underlying h]
      have hm : mkV P t ((us.toList.drop k).take l.length) = .agg ((us.toList.drop k).take l.length).toArray := by simp [mkV, h]
      rw [hm]
      have e : us.extract k (k + l.length) = ((us.toList.drop k).take l.length).toArray := by
        apply Array.toList_inj.1
        rw [Array.toList_extract]
        simp [List.extract]
      simp [part, hag, run_sizeOf' hi, ← hs, hsz, e]
    · cases hl
theorem eq_deep (w : World) : ∀ (n : Nat) (t : TypeId) (ks : List Nat), leaves P n t = some ks → ∀ (d : Nat) (cs ds : List Value) (b : Bool), sameV ks cs ds = some b → (Op.equalIn (n + d) t (mkV P t cs) (mkV P t ds)).run P w = .ok b w := by
  intro n
  induction n with
  | zero => intro t ks h; cases h
  | succ n ih =>
    intro t ks h d cs ds b hb
    rw [show n + 1 + d = (n + d) + 1 by omega]
    unfold leaves at h
    split at h
    · rename_i kk hk; cases h
      unfold sameV at hb
      split at hb <;> try (cases hb; done)
      · simp_all
      · rename_i heq; cases heq
        split at hb
        · rename_i hkk; subst hkk
          simp only [Option.map_eq_some_iff] at hb
          obtain ⟨r, hr, rfl⟩ := hb
          obtain rfl : r = true := sameV_nil hr
          obtain ⟨rfl, rfl⟩ := sameV_nil' hr
          simp only [mkV, hk, List.headD_cons, Bool.and_true]
          exact run_equalIn_int w (n + d) t _ kk _ _ hk
        · cases hb
      · rename_i heq; cases heq
      · rename_i heq; cases heq
    · rename_i hk; cases h
      unfold sameV at hb
      split at hb <;> try (cases hb; done)
      · simp_all
      · rename_i heq; cases heq
      · rename_i heq; cases heq
        simp only [Option.map_eq_some_iff] at hb
        obtain ⟨r, hr, rfl⟩ := hb
        obtain rfl : r = true := sameV_nil hr
        obtain ⟨rfl, rfl⟩ := sameV_nil' hr
        simp only [mkV, hk, List.headD_cons, Bool.and_true]
        exact Go.run_equalIn_bool w (n + d) t _ _ hk
      · rename_i heq; cases heq
    · rename_i hk; cases h
      unfold sameV at hb
      split at hb <;> try (cases hb; done)
      · simp_all
      · rename_i heq; cases heq
      · rename_i heq; cases heq
      · rename_i heq; cases heq
        simp only [Option.map_eq_some_iff] at hb
        obtain ⟨r, hr, rfl⟩ := hb
        obtain rfl : r = true := sameV_nil hr
        obtain ⟨rfl, rfl⟩ := sameV_nil' hr
        simp only [mkV, hk, List.headD_cons, Bool.and_true]
        rw [run_equalIn_string w (n + d) t _ _ hk, ← beq_toListBytes]
    · rename_i fs hk
      split at h
      · cases h
      rename_i hst
      have hst' : P.stoodInHeld t = false := by simpa using hst
      have hfo : P.fieldsOf t = fs := by simp [Program.fieldsOf, hk]
      simp only [mkV, hk]
      rw [run_equalIn_struct w (n + d) t _ _ (by rw [hfo]; exact hk) hst', hfo]
      have hl := sameV_len _ _ _ _ hb
      have key : ∀ (fs : List Field) (k : Nat) (ks : List Nat) (b : Bool), leavesF P (leaves P n) k fs = some ks → k + ks.length ≤ cs.length → k + ks.length ≤ ds.length → sameV ks (cs.drop k) (ds.drop k) = some b → (Op.eqFields (n + d) cs.toArray ds.toArray fs).run P w = .ok b w := by
        intro fs
        induction fs with
        | nil =>
          intro k ks b h _ _ hb
          simp only [leavesF, Option.some.injEq] at h
          subst h
          obtain rfl : b = true := sameV_nil hb
          rfl
        | cons f fs ihf =>
          intro k ks b h hc1 hc2 hb
          unfold leavesF at h
          split at h
          · rename_i hcond
            simp only [Bool.and_eq_true, beq_iff_eq, bne_iff_ne] at hcond
            obtain ⟨⟨ho, hn⟩, hkn⟩ := hcond
            split at h
            · rename_i l hl
              split at h
              · rename_i hsz
                simp only [Option.map_eq_some_iff] at h
                obtain ⟨ks', hks', rfl⟩ := h
                obtain ⟨b1, b2, g1, g2, rfl⟩ := sameV_append _ _ _ _ _ hb
                rw [List.length_append] at hc1 hc2
                have hp1 := run_part_deep hl hkn hsz (us := cs.toArray) (k := k) (by simpa using (by omega : k + l.length ≤ cs.length)) w
                have hp2 := run_part_deep hl hkn hsz (us := ds.toArray) (k := k) (by simpa using (by omega : k + l.length ≤ ds.length)) w
                have he := ih f.type l hl d _ _ b1 g1
                rw [List.drop_drop, List.drop_drop] at g2
                have hrest := ihf (k + l.length) ks' b2 hks' (by omega) (by omega) g2
                simp only [Op.eqFields]
                rw [if_pos hn]
                simp only [ho, Sem.run_bind, hp1, hp2, Result.andThen_ok, he]
                cases b1
                · simp
                · simp [hrest]
              · cases h
            · cases h
          · cases h
      exact key fs.toList 0 ks b h (by omega) (by omega) (by simpa using hb)
    · cases h
theorem check_deep (w : World) (e : Bool) : ∀ (n : Nat) (t : TypeId) (ks : List Nat), leaves P n t = some ks → ∀ (d : Nat) (cs : List Value), cs.length = ks.length → (Instr.checkKey e (n + d) t (mkV P t cs)).run P w = .ok () w := by
  intro n
  induction n with
  | zero => intro t ks h; cases h
  | succ n ih =>
    intro t ks h d cs hl
    rw [show n + 1 + d = (n + d) + 1 by omega]
    unfold leaves at h
    split at h
    · rename_i kk hk
      simp only [Instr.checkKey, Sem.run_bind, run_underlying hk, Result.andThen_ok, Sem.run_pure]
    · rename_i hk
      simp only [Instr.checkKey, Sem.run_bind, run_underlying hk, Result.andThen_ok, Sem.run_pure]
    · rename_i hk
      simp only [Instr.checkKey, Sem.run_bind, run_underlying hk, Result.andThen_ok, Sem.run_pure]
    · rename_i fs hk
      split at h
      · cases h
      simp only [mkV, hk, Instr.checkKey, Sem.run_bind, run_underlying hk, Result.andThen_ok]
      rw [← Array.forIn_toList]
      have key : ∀ (fs : List Field) (k : Nat) (ks : List Nat), leavesF P (leaves P n) k fs = some ks → k + ks.length ≤ cs.length →
          (forIn fs PUnit.unit (fun f _ => (do
            if f.name ≠ "_" then Instr.checkKey e (n + d) f.type (← part f.type cs.toArray f.offset)
            pure (ForInStep.yield PUnit.unit) : Sem (ForInStep PUnit)))).run P w = .ok PUnit.unit w := by
        intro fs
        induction fs with
        | nil => intro k ks _ _; simp
        | cons f fs ihf =>
          intro k ks h hc
          unfold leavesF at h
          split at h
          · rename_i hcond
            simp only [Bool.and_eq_true, beq_iff_eq, bne_iff_ne] at hcond
            obtain ⟨⟨ho, hn⟩, hkn⟩ := hcond
            split at h
            · rename_i l hl'
              split at h
              · rename_i hsz
                simp only [Option.map_eq_some_iff] at h
                obtain ⟨ks', hks', rfl⟩ := h
                rw [List.length_append] at hc
                have hp1 := run_part_deep hl' hkn hsz (us := cs.toArray) (k := k) (by simpa using (by omega : k + l.length ≤ cs.length)) w
                have he := ih f.type l hl' d ((cs.toArray.toList.drop k).take l.length) (by simp; omega)
                have hrest := ihf (k + l.length) ks' hks' (by omega)
                simp at hrest
                simp [List.forIn_cons, hn, ho, hp1, he, Result.andThen]
                exact hrest
              · cases h
            · cases h
          · cases h
      have := key fs.toList 0 ks h (by omega)
      simp at this
      simp [this, Result.andThen]
    · cases h
end
end Go.EX


set_option linter.unusedVariables false
set_option linter.unusedSimpArgs false
namespace Go.EX
section
variable {num : Names} {P : Program}
variable {ty : TypeId} {pos : String} {after : Array Edge} {a : Act} {C : Cx} {s : St}
theorem put_tr {m : Mem} (hm : MRep num C m) {id : Nat} {o : AObj} (ho : m[id]? = some o) (hlo : o.live = true) {w' : World}
    (hno : ∀ arr e fz, C.w.heap[C.σ id]? ≠ some (.cells arr e fz)) (hw : ∀ b, b ≠ C.σ id → w'.heap[b]? = C.w.heap[b]?) : Tr some C { C with w := w' } := by
  refine ⟨fun _ h => h, fun b hb => hw b fun e => hm.imm b ⟨id, o, ho, hlo, e.symm⟩ hb, fun i j hi hj => ?_⟩
  cases hj
  refine ⟨hi, rfl, fun arr e h => h.same (hw _ fun hc => ?_)⟩
  obtain ⟨a, fz, h1, _⟩ := h
  exact hno a e fz (by rw [← hc]; exact h1)
theorem put_step {m : Mem} (hm : MRep num C m) {id : Nat} {o o' : AObj} (ho : m[id]? = some o) (hlo : o.live = true) {w' : World}
    (hno : ∀ arr e fz, C.w.heap[C.σ id]? ≠ some (.cells arr e fz)) (hw : ∀ b, b ≠ C.σ id → w'.heap[b]? = C.w.heap[b]?) (hos : w'.os = C.w.os) (htp : w'.tape = C.w.tape) (hout : w'.output = C.w.output) (hsize : w'.heap.size = C.w.heap.size)
    (hmv : o.moved = false) (hr : ORep num { C with w := w' } id o') {k : Nat} (hk : k ≤ m.length) (hof : o.isFix = false := by rfl) :
    Step num k C m { C with w := w' } (m.set id o') := by
  have ht := put_tr hm ho hlo hno hw
  have back : ∀ (i : Nat) (p : AObj), (m.set id o')[i]? = some p → (i = id ∧ p = o') ∨ (i ≠ id ∧ m[i]? = some p) := by
    intro i p hp
    rw [set_get] at hp
    split at hp
    · rename_i hi; exact .inl ⟨hi.1.symm, (Option.some.inj hp).symm⟩
    · rename_i hi
      exact .inr ⟨fun e => hi ⟨e.symm, (List.getElem?_eq_some_iff.1 hp).1⟩, hp⟩
  have hown : ∀ b, Own { C with w := w' } (m.set id o') b → Own C m b := by
    rintro b ⟨i, p, hp, hl, hb⟩
    rcases back i p hp with ⟨rfl, rfl⟩ | ⟨_, hp'⟩
    · exact ⟨i, o, ho, hlo, hb⟩
    · exact ⟨i, p, hp', hl, hb⟩
  refine ⟨⟨by simpa using hm.len, fun i p hp => ?_, fun i j p q hp hq hlp hlq hσ => ?_, fun b hb => hm.imm b (hown b hb), fun b hb => by show b < w'.heap.size; rw [hsize]; exact hm.bd b hb, num.up hm.glo ht.imm ht.keep⟩, hos, htp, hout, by show _ ≤ w'.heap.size; omega, fun b _ hb => hw b fun e => hb ⟨id, o, ho, hlo, e.symm⟩,
    fun b arr e h => h.same ?_, fun _ h => h, fun _ h => .inl h, fun b hb => .inr (hown b hb), fun i _ p hp hmp => ?_, by simpa using hk⟩
  · rcases back i p hp with ⟨rfl, rfl⟩ | ⟨hne, hp'⟩
    · exact hr
    · by_cases hlp : p.live = true
      · refine orep_mono ht rfl (fun x hx => ?_) (hm.obj i p hp')
        show w'.heap[C.σ i]? = _
        rw [hw _ fun e => hne (hm.inj2 num i id p o hp' ho hlp hlo hof e)]; exact hx
      · cases p with
        | dead => trivial
        | _ => exact absurd rfl hlp
  · have hl : ∀ (i : Nat) (p : AObj), (m.set id o')[i]? = some p → p.live = true → ∃ p' : AObj, m[i]? = some p' ∧ p'.live = true ∧ (p' = p ∨ p'.isFix = false) := by
      intro i p hp hl
      rcases back i p hp with ⟨rfl, rfl⟩ | ⟨_, hp'⟩
      · exact ⟨o, ho, hlo, .inr hof⟩
      · exact ⟨p, hp', hl, .inl rfl⟩
    obtain ⟨p', hp', hlp', hp3⟩ := hl i p hp hlp
    obtain ⟨q', hq', hlq', hq3⟩ := hl j q hq hlq
    rcases hm.inj i j p' q' hp' hq' hlp' hlq' hσ with h | h
    · exact .inl h
    · rcases hp3 with rfl | h3
      · rcases hq3 with rfl | h4
        · exact .inr h
        · rw [(twin_fix h).2] at h4; cases h4
      · rw [(twin_fix h).1] at h3; cases h3
  · obtain ⟨a, fz, h1, _⟩ := h
    exact hw b fun e' => hno a e fz (by rw [← e']; exact h1)
  · rcases back i p hp with ⟨rfl, rfl⟩ | ⟨_, hp'⟩
    · exact ⟨o, ho, hmv, rfl⟩
    · exact ⟨p, hp', hmp, rfl⟩
def IsK (P : Program) (w : World) (kt : TypeId) : Nat → Value → Prop
  | 0, v => ∃ j k n, P.underlying kt = some (.int j) ∧ v = .int k n
  | 1, v => ∃ b, P.underlying kt = some .bool ∧ v = .bool b
  | 2, v => ∃ b, P.underlying kt = some .string ∧ v = .string b
  | 3, v => ∃ e i b o, P.underlying kt = some (.pointer e) ∧ P.info? e = some i ∧ i.size ≠ 0 ∧ v = .pointer (some ⟨b, o, none⟩)
  | _ + 4, v => ∃ fs ks cs, P.underlying kt = some (.struct fs) ∧ leaves P 100 kt = some ks ∧ cs.length = ks.length ∧ v = mkV P kt cs
theorem agg_vals {xs : List AV} {cs : List Value} (hx : xs = cs.map fun v => AV.imm (.val v)) {v : Value} (h : ARep num C (.agg xs) v) : v = .agg cs.toArray := by
  subst hx
  cases h with
  | agg _ us hl h1 h2 =>
    congr 1
    apply Array.toList_inj.1
    refine List.ext_getElem? fun j => ?_
    rw [List.length_map] at hl
    rcases Nat.lt_or_ge j cs.length with hj | hj
    · have hju : j < us.size := by omega
      have := h2 j (.imm (.val cs[j])) us[j] (by simp [hj]) (by simp [hju])
      have := rep_val this
      simp [hj, hju, this]
    · rw [List.getElem?_eq_none (by simp; omega), List.getElem?_eq_none (by simpa using hj)]
theorem not_struct {kt : TypeId} {kind : Nat} (h : keyKind P kt = some kind) (hk : kind < 4) (fs : Array Field) : P.underlying kt ≠ some (.struct fs) := by
  intro he
  unfold keyKind at h
  rw [he] at h
  dsimp only at h
  split at h
  · split at h
    · have := Option.some.inj h; omega
    · cases h
  · cases h
theorem keyKind_is {kt : TypeId} {kind : Nat} (h : keyKind P kt = some kind) {x : AV} {v : Value} (hx : ARep num C x v) (hk : isKeyAV kind x = true) : IsK P C.w kt kind v := by
  unfold keyKind at h
  split at h
  · rename_i j hj
    cases h
    unfold isKeyAV at hk
    split at hk <;> first | (cases hk; done) | skip
    all_goals (rename_i h0; first | (cases h0; done) | skip)
    have := rep_val hx
    subst this
    exact ⟨_, _, _, hj, rfl⟩
  · rename_i hj
    cases h
    unfold isKeyAV at hk
    split at hk <;> first | (cases hk; done) | skip
    all_goals (rename_i h0; first | (cases h0; done) | skip)
    have := rep_val hx
    subst this
    exact ⟨_, hj, rfl⟩
  · rename_i hj
    cases h
    unfold isKeyAV at hk
    split at hk <;> first | (cases hk; done) | skip
    all_goals (rename_i h0; first | (cases h0; done) | skip)
    have := rep_val hx
    subst this
    exact ⟨_, hj, rfl⟩
  · rename_i e he
    split at h
    · rename_i hc
      simp only [Bool.and_eq_true, decide_eq_true_eq] at hc
      cases h
      obtain ⟨i, d, h1, h2, h3, _⟩ := known_some hc.1
      unfold isKeyAV at hk
      split at hk <;> first | (cases hk; done) | skip
      all_goals (rename_i h0; first | (cases h0; done) | skip)
      cases hx with
      | optr id off hid => exact ⟨e, i, _, _, he, h1, by rw [← h3]; omega, rfl⟩
    · cases h
  · rename_i fs hfs
    split at h
    · rename_i ks hks
      split at h
      · rename_i hdig
        cases h
        unfold isKeyAV at hk
        split at hk <;> first | (cases hk; done) | skip
        all_goals (rename_i h0; first | (cases h0; done) | skip)
        rename_i n xs
        have h0' : undigits ks = n := by simpa using h0
        subst h0'
        rw [hdig] at hk
        obtain ⟨b, hb⟩ := Option.isSome_iff_exists.1 hk
        obtain ⟨cs, ds, h1, _, h3⟩ := sameCells_vals _ _ _ _ hb
        have hv := agg_vals h1 hx
        exact ⟨fs, ks, cs, hfs, hks, (sameV_len _ _ _ _ h3).1, by rw [hv]; simp [mkV, hfs]⟩
      · cases h
    · cases h
  · cases h
theorem run_check {w : World} {kt : TypeId} {kind : Nat} {v : Value} (h : IsK P w kt kind v) (e : Bool) (n : Nat) (hn : 99 ≤ n) : (Instr.checkKey e (n + 1) kt v).run P w = .ok () w := by
  match kind, h with
  | _ + 4, ⟨fs, ks, cs, h1, h2, h3, h4⟩ => subst h4; rw [show n + 1 = 100 + (n - 99) by omega]; exact check_deep w e 100 kt ks h2 (n - 99) cs h3
  | 0, ⟨j, k, n, h1, h2⟩ => subst h2; simp [Instr.checkKey, run_underlying h1, Result.andThen]
  | 1, ⟨b, h1, h2⟩ => subst h2; simp [Instr.checkKey, run_underlying h1, Result.andThen]
  | 2, ⟨b, h1, h2⟩ => subst h2; simp [Instr.checkKey, run_underlying h1, Result.andThen]
  | 3, ⟨e, i, b, o, h1, _, _, h2⟩ => subst h2; simp [Instr.checkKey, run_underlying h1, Result.andThen]
theorem hasCells_of {m : Mem} (hm : MRep num C m) {id : Nat} (h : ((m[id]?).getD .dead).hasCells = true) : ∃ o arr e, m[id]? = some o ∧ o.live = true ∧ C.w.heap[C.σ id]? = some (.cells arr e (0, 0)) ∧ o.isFix = false := by
  cases hq : m[id]? with
  | none => simp [hq, AObj.hasCells] at h
  | some o =>
    simp only [hq, Option.getD_some] at h
    have h1 := hm.obj id o hq
    cases o with
    | flat => obtain ⟨arr, e, h2, _⟩ := h1; exact ⟨_, arr, e, rfl, rfl, h2, rfl⟩
    | rich => obtain ⟨arr, e, h2, _⟩ := h1; exact ⟨_, arr, e, rfl, rfl, h2, rfl⟩
    | map => cases h
    | dead => cases h
    | fix => cases h
    | loop => cases h
    | text => cases h
theorem key_same {m : Mem} (hm : MRep num C m) {kt : TypeId} {kind : Nat} (hkt : keyKind P kt = some kind) {x y : AV} {u v : Value} (hx : ARep num C x u) (hy : ARep num C y v) {b : Bool} (h : keyEq m kind x y = some b) :
    (kind < 3 → ∃ d, P.underlying kt = some d ∧ Instr.sameNow d u v = some b) ∧ (3 ≤ kind → (∃ d, P.underlying kt = some d ∧ Instr.sameNow d u v = none) ∧ (Op.equal kt u v).run P C.w = .ok b C.w) := by
  unfold keyEq at h
  split at h
  · rename_i k n j n'
    split at h
    · rename_i hk
      cases h
      have e1 := rep_val hx
      have e2 := rep_val hy
      subst e1 e2 hk
      refine ⟨fun _ => ?_, fun h => absurd h (by decide)⟩
      have hns := not_struct hkt (by decide)
      unfold keyKind at hkt
      split at hkt <;> first | (cases hkt; done) | (exact absurd ‹P.underlying kt = some (.struct _)› (hns _)) | skip
      · rename_i hj; exact ⟨_, hj, by simp [Instr.sameNow]⟩
      · split at hkt <;> cases hkt
    · cases h
  · cases h
    have e1 := rep_val hx
    have e2 := rep_val hy
    subst e1 e2
    refine ⟨fun _ => ?_, fun h => absurd h (by decide)⟩
    have hns := not_struct hkt (by decide)
    unfold keyKind at hkt
    split at hkt <;> first | (cases hkt; done) | (exact absurd ‹P.underlying kt = some (.struct _)› (hns _)) | skip
    · rename_i hj; exact ⟨_, hj, by simp [Instr.sameNow]⟩
    · split at hkt <;> cases hkt
  · cases h
    have e1 := rep_val hx
    have e2 := rep_val hy
    subst e1 e2
    refine ⟨fun _ => ?_, fun h => absurd h (by decide)⟩
    have hns := not_struct hkt (by decide)
    unfold keyKind at hkt
    split at hkt <;> first | (cases hkt; done) | (exact absurd ‹P.underlying kt = some (.struct _)› (hns _)) | skip
    · rename_i hj; exact ⟨_, hj, by simp [Instr.sameNow]⟩
    · split at hkt <;> cases hkt
  · rename_i i o j p
    split at h
    · rename_i hc
      simp only [Bool.and_eq_true] at hc
      cases h
      cases hx with
      | optr _ _ hi =>
        cases hy with
        | optr _ _ hj =>
          refine ⟨fun h => absurd h (by decide), fun _ => ?_⟩
          have hns := not_struct hkt (by decide)
          unfold keyKind at hkt
          split at hkt <;> first | (cases hkt; done) | (exact absurd ‹P.underlying kt = some (.struct _)› (hns _)) | skip
          rename_i e he
          split at hkt
          · rename_i hk
            simp only [Bool.and_eq_true, decide_eq_true_eq] at hk
            obtain ⟨inf, d, h1, h2, h3, _⟩ := known_some hk.1
            refine ⟨⟨_, he, by simp [Instr.sameNow]⟩, ?_⟩
            obtain ⟨o1, arr1, e1, g1, g2, g3, g7⟩ := hasCells_of hm hc.1
            obtain ⟨o2, arr2, e2, g4, g5, g6, g8⟩ := hasCells_of hm hc.2
            by_cases hs : i = j ∧ o = p
            · obtain ⟨rfl, rfl⟩ := hs
              have hq : ∀ d : Nat, (Op.equalIn (d + 1) kt (.pointer (some ⟨C.σ i, o, none⟩)) (.pointer (some ⟨C.σ i, o, none⟩))).run P C.w = .ok true C.w := fun d => by
                simp [Op.equalIn, run_underlying he, sizeOf, typeInfo, h1, run_sameAddr_same]
              simpa [Op.equal, Op.maxDepth] using hq 9999
            · have hne : (⟨C.σ i, o, none⟩ : Addr) ≠ ⟨C.σ j, p, none⟩ := by
                intro heq
                simp only [Addr.mk.injEq, and_true] at heq
                exact hs ⟨hm.inj1 num i j _ _ g1 g4 g2 g5 g7 heq.1, heq.2⟩
              have hb : (i == j && o == p) = false := by
                cases hb : (i == j && o == p) with
                | false => rfl
                | true => simp only [Bool.and_eq_true, beq_iff_eq] at hb; exact absurd hb hs
              rw [hb]
              have hsz : inf.size ≠ 0 := by rw [← h3]; omega
              have hq : ∀ d : Nat, (Op.equalIn (d + 1) kt (.pointer (some ⟨C.σ i, o, none⟩)) (.pointer (some ⟨C.σ j, p, none⟩))).run P C.w = .ok false C.w := fun d => by
                simp [Op.equalIn, run_underlying he, sizeOf, typeInfo, h1, hsz, run_sameAddr_other C.w hne g3 g6]
              simpa [Op.equal, Op.maxDepth] using hq 9999
          · cases hkt
    · cases h
  · rename_i n xs ys
    refine ⟨fun h => absurd h (by omega), fun _ => ?_⟩
    unfold keyKind at hkt
    split at hkt <;> first | (cases hkt; done) | skip
    · split at hkt
      · have := Option.some.inj hkt; omega
      · cases hkt
    rename_i fs hfs
    split at hkt
    · rename_i ks hks
      split at hkt
      · rename_i hdig
        have hn : undigits ks = n := by have := Option.some.inj hkt; omega
        subst hn
        rw [hdig] at h
        obtain ⟨cs, ds, h1, h2, h3⟩ := sameCells_vals _ _ _ _ h
        have e1 := agg_vals h1 hx
        have e2 := agg_vals h2 hy
        subst e1 e2
        refine ⟨⟨_, hfs, by simp [Instr.sameNow]⟩, ?_⟩
        have := eq_deep (P := P) C.w 100 kt ks hks 9900 cs ds b h3
        simp only [mkV, hfs] at this
        exact this
      · cases hkt
    · cases hkt
  · cases h
theorem run_find {m : Mem} (hm : MRep num C m) {kt : TypeId} {kind : Nat} (hkt : keyKind P kt = some kind) {k : AV} {kv : Value} (hk : ARep num C k kv) {es : List (AV × AV)} {es' : List MapEntry} (hl : es'.length = es.length)
    (hes : ∀ (j : Nat) (p : AV × AV) (x : MapEntry), es[j]? = some p → es'[j]? = some x → ARep num C p.1 x.key) {r : Option Nat} (h : findK m kind k es 0 = some r) :
    ∃ q, (Instr.findKey kt kv es').run P C.w = .ok q C.w ∧ q = r.bind fun i => (es'[i]?).map fun x => (i, x.val) := by
  have hd : ∃ d, P.underlying kt = some d := by
    unfold keyKind at hkt
    split at hkt <;> first | (rename_i hd; exact ⟨_, hd⟩) | skip
    cases hkt
  obtain ⟨d, hd⟩ := hd
  by_cases h3 : 3 ≤ kind
  · have asking : ∀ (es : List (AV × AV)) (es' : List MapEntry) (i : Nat) (r : Option Nat), es'.length = es.length → (∀ (j : Nat) (p : AV × AV) (x : MapEntry), es[j]? = some p → es'[j]? = some x → ARep num C p.1 x.key) → findK m kind k es i = some r →
        (Instr.findAsking kt kv es' i).run P C.w = .ok (r.bind fun j => (es'[j - i]?).map fun x => (j, x.val)) C.w ∧ (∀ j, r = some j → i ≤ j) := by
      intro es
      induction es with
      | nil =>
        intro es' i r hl _ h
        have : es' = [] := by simpa using hl
        subst this
        cases h
        exact ⟨by simp [Instr.findAsking], fun j hj => by cases hj⟩
      | cons e es ih =>
        intro es' i r hl hes h
        cases es' with
        | nil => simp at hl
        | cons e' es' =>
          simp only [findK] at h
          have h0 := hes 0 e e' rfl rfl
          cases hke : keyEq m kind k e.1 with
          | none => rw [hke] at h; cases h
          | some b =>
            rw [hke] at h
            obtain ⟨_, hrun⟩ := (key_same hm hkt hk h0 hke).2 h3
            cases b with
            | true =>
              cases h
              refine ⟨?_, fun j hj => by cases hj; exact Nat.le_refl _⟩
              simp [Instr.findAsking, hrun, Result.andThen]
            | false =>
              obtain ⟨g1, g2⟩ := ih es' (i + 1) r (by simpa using hl) (fun j p x hp hx => hes (j + 1) p x (by simpa using hp) (by simpa using hx)) h
              refine ⟨?_, fun j hj => by have := g2 j hj; omega⟩
              simp only [Instr.findAsking, Sem.run_bind, hrun, Result.andThen_ok, Bool.false_eq_true, if_false]
              rw [g1]
              cases r with
              | none => rfl
              | some j =>
                have := g2 j rfl
                simp only [Option.bind_some]
                rw [show j - i = (j - (i + 1)) + 1 by omega, List.getElem?_cons_succ]
    cases es with
    | nil =>
      have : es' = [] := by simpa using hl
      subst this
      cases h
      exact ⟨none, by simp [Instr.findKey, run_underlying hd, Result.andThen, Instr.findNow], rfl⟩
    | cons e es =>
      cases es' with
      | nil => simp at hl
      | cons e' es' =>
        have h0 := hes 0 e e' rfl rfl
        have hnow : Instr.findNow d kv (e' :: es') 0 = none := by
          simp only [findK] at h
          cases hke : keyEq m kind k e.1 with
          | none => rw [hke] at h; cases h
          | some b =>
            obtain ⟨⟨d', hd', hs⟩, _⟩ := (key_same hm hkt hk h0 hke).2 h3
            rw [hd] at hd'
            cases hd'
            simp [Instr.findNow, hs]
        obtain ⟨g1, _⟩ := asking (e :: es) (e' :: es') 0 r hl hes h
        refine ⟨_, ?_, rfl⟩
        simp only [Instr.findKey, Sem.run_bind, run_underlying hd, Result.andThen_ok, hnow]
        rw [g1]; simp
  · have now : ∀ (es : List (AV × AV)) (es' : List MapEntry) (i : Nat) (r : Option Nat), es'.length = es.length → (∀ (j : Nat) (p : AV × AV) (x : MapEntry), es[j]? = some p → es'[j]? = some x → ARep num C p.1 x.key) → findK m kind k es i = some r →
        Instr.findNow d kv es' i = some (r.bind fun j => (es'[j - i]?).map fun x => (j, x.val)) ∧ (∀ j, r = some j → i ≤ j) := by
      intro es
      induction es with
      | nil =>
        intro es' i r hl _ h
        have : es' = [] := by simpa using hl
        subst this
        cases h
        exact ⟨rfl, fun j hj => by cases hj⟩
      | cons e es ih =>
        intro es' i r hl hes h
        cases es' with
        | nil => simp at hl
        | cons e' es' =>
          simp only [findK] at h
          have h0 := hes 0 e e' rfl rfl
          cases hke : keyEq m kind k e.1 with
          | none => rw [hke] at h; cases h
          | some b =>
            rw [hke] at h
            obtain ⟨d', hd', hs⟩ := (key_same hm hkt hk h0 hke).1 (by omega)
            rw [hd] at hd'
            cases hd'
            cases b with
            | true =>
              cases h
              exact ⟨by simp [Instr.findNow, hs], fun j hj => by cases hj; exact Nat.le_refl _⟩
            | false =>
              obtain ⟨g1, g2⟩ := ih es' (i + 1) r (by simpa using hl) (fun j p x hp hx => hes (j + 1) p x (by simpa using hp) (by simpa using hx)) h
              refine ⟨?_, fun j hj => by have := g2 j hj; omega⟩
              simp only [Instr.findNow, hs, g1]
              cases r with
              | none => rfl
              | some j =>
                have := g2 j rfl
                simp only [Option.bind_some]
                rw [show j - i = (j - (i + 1)) + 1 by omega, List.getElem?_cons_succ]
    obtain ⟨g1, _⟩ := now es es' 0 r hl hes h
    refine ⟨_, ?_, rfl⟩
    simp only [Instr.findKey, Sem.run_bind, run_underlying hd, Result.andThen_ok, g1]
    simp
theorem findK_true {m : Mem} {kind : Nat} {k : AV} : ∀ (es : List (AV × AV)) (i0 i : Nat), findK m kind k es i0 = some (some i) → i0 ≤ i ∧ ∃ p, es[i - i0]? = some p ∧ keyEq m kind k p.1 = some true
  | [], i0, i, h => by cases h
  | e :: es, i0, i, h => by
    simp only [findK] at h
    cases hk : keyEq m kind k e.1 with
    | none => rw [hk] at h; cases h
    | some b =>
      rw [hk] at h
      cases b with
      | true => cases h; exact ⟨Nat.le_refl _, e, by simp, hk⟩
      | false =>
        obtain ⟨h1, p, h2, h3⟩ := findK_true es (i0 + 1) i h
        refine ⟨by omega, p, ?_, h3⟩
        rw [show i - i0 = (i - (i0 + 1)) + 1 by omega, List.getElem?_cons_succ]; exact h2
theorem key_stays {m : Mem} {kind : Nat} {x y : AV} {u v : Value} (hx : ARep num C x u) (hy : ARep num C y v) (h : keyEq m kind x y = some true) (w : World) : (Instr.keyThatStays v u).run P w = .ok u w := by
  have key : v = u ∧ Instr.sameBits 10000 v u = true := by
    unfold keyEq at h
    split at h
    · split at h
      · rename_i hk
        have e1 := rep_val hx
        have e2 := rep_val hy
        subst e1 e2 hk
        simp at h
        subst h
        exact ⟨rfl, by simp [Instr.sameBits]⟩
      · cases h
    · have e1 := rep_val hx
      have e2 := rep_val hy
      subst e1 e2
      simp at h
      subst h
      exact ⟨rfl, by simp [Instr.sameBits]⟩
    · have e1 := rep_val hx
      have e2 := rep_val hy
      subst e1 e2
      simp only [Option.some.injEq] at h
      have := (MapKept.bytes_beq _ _).1 h
      subst this
      exact ⟨rfl, by simp only [Instr.sameBits]; exact h⟩
    · split at h
      · simp only [Option.some.injEq, Bool.and_eq_true, beq_iff_eq] at h
        obtain ⟨rfl, rfl⟩ := h
        cases hx with
        | optr => cases hy with
          | optr => exact ⟨rfl, by simp [Instr.sameBits]⟩
      · cases h
    · obtain ⟨cs, ds, h1, h2, h3⟩ := sameCells_vals _ _ _ _ h
      have e1 := agg_vals h1 hx
      have e2 := agg_vals h2 hy
      subst e1 e2
      have := sameV_true _ _ _ h3
      obtain ⟨rfl, hbits⟩ := this
      exact ⟨rfl, by simp [Instr.sameBits, hbits]⟩
    · cases h
  obtain ⟨rfl, hb⟩ := key
  simp [Instr.keyThatStays, hb]
theorem zero_rep {t : TypeId} {zs : List Value} {agg : Bool} (h : zeroOf P t = some (zs, agg)) (D : Cx) : ∃ z, (∀ w, (zeroValue t).run P w = .ok z w) ∧ ARep num D (zeroAV zs agg) z := by
  unfold zeroOf at h
  cases hi : P.info? t with
  | none => simp [hi] at h
  | some i =>
    cases hz : i.zero with
    | none => simp [hi, hz] at h
    | some z =>
      have hrun : ∀ w, (zeroValue t).run P w = .ok z w := fun w => by simp [zeroValue, typeInfo, hi, hz]
      refine ⟨z, hrun, ?_⟩
      simp only [hi, Option.bind_some, hz] at h
      split at h
      · rename_i cs heq
        cases heq
        split at h
        · rename_i hone
          cases h
          refine .agg _ _ (by simp [imZ]) (fun j u hu => ?_) (fun j x u hx hu => ?_)
          · rw [← oneCell_eq]
            exact List.all_eq_true.1 hone u (by rw [Array.mem_toList_iff]; exact Array.mem_of_getElem? hu)
          · simp only [imZ, List.getElem?_map, Array.getElem?_toList, hu, Option.map_some, Option.some.injEq] at hx
            subst hx
            refine .imm _ _ (.val u ?_)
            rw [← oneCell_eq]
            exact List.all_eq_true.1 hone u (by rw [Array.mem_toList_iff]; exact Array.mem_of_getElem? hu)
        · cases h
      · rename_i z' _ heq
        cases heq
        split at h
        · rename_i hone
          cases h
          exact .imm _ _ (.val _ (by rw [← oneCell_eq]; exact hone))
        · cases h
      · cases h
theorem y_makeMap (hs : SRep num C s a) {t kt e : TypeId} {r : Option Operand} {r' : Option Src} (ht : P.underlying t = some (.map kt e)) (hr : r.mapM (trSrc num) = some r') (hi : ∀ x, r' = some x → ∃ i, intOf (s.env.ev x) = some i) :
    Yields num P (.makeMap t r) ty pos after a C s (.omap s.mem.length) { s with mem := s.mem ++ [.map []] } := by
  have hlen := hs.mem.len
  have hnew : ORep num (C.more C.w (.map #[] 0)) C.n (.map []) := by
    refine ⟨#[], 0, ?_, rfl, fun j p x hp _ => by simp at hp⟩
    simp only [Cx.more, if_true]
    rw [alloc_get, if_pos rfl]
  refine ⟨.map (some C.w.heap.size), C.more C.w (.map #[] 0), fun _ _ => .inl ?_, more_step hs.mem rfl rfl rfl rfl _ (.map []) hnew hs.k, hs.env.mono (more_tr hs.mem rfl _), ?_, rfl⟩
  · cases r with
    | none => simp [execOp, Instr.makeMap, newObj, Cx.more, Sem.run]
    | some x =>
      simp only [Option.mapM_some, Option.map_eq_map, Option.map_eq_some_iff] at hr
      obtain ⟨x', hx, rfl⟩ := hr
      obtain ⟨i, hi⟩ := hi x' rfl
      obtain ⟨k, hk, _⟩ := rep_int (src_rep hs hx) hi
      simp [execOp, Instr.makeMap, newObj, Cx.more, Sem.run, hk, run_underlying ht, asInt, asIntOf, Result.andThen]
  · rw [hlen]
    have : C.w.heap.size = (C.more C.w (.map #[] 0)).σ C.n := by simp [Cx.more]
    rw [this]
    exact .omap _ (by simp [Cx.more])
theorem map_of {m : Mem} (hm : MRep num C m) {id : Nat} {v : Value} (h : ARep num C (.omap id) v) {es : List (AV × AV)} (he : m[id]? = some (.map es)) :
    ∃ (es' : Array MapEntry) (clock : Nat), v = .map (some (C.σ id)) ∧ C.w.heap[C.σ id]? = some (.map es' clock) ∧ es'.size = es.length ∧ ∀ (j : Nat) (p : AV × AV) (x : MapEntry), es[j]? = some p → es'[j]? = some x → ARep num C p.1 x.key ∧ ARep num C p.2 x.val := by
  cases h with
  | omap _ hid =>
    obtain ⟨es', clock, h1, h2, h3⟩ := hm.obj id _ he
    exact ⟨es', clock, rfl, h1, h2, h3⟩
theorem out_rep {D : Cx} {x : AV} {v : Value} (h : ARep num D x v) (ok b : Bool) : ARep num D (if ok then .tup [x, .imm (.val (.bool b))] else x) (if ok then .tuple #[v, .bool b] else v) := by
  cases ok with
  | false => exact h
  | true =>
    refine .tup _ _ rfl fun j y u hy hu => ?_
    match j with
    | 0 => simp at hy hu; subst hy hu; exact h
    | 1 => simp at hy hu; subst hy hu; exact .imm _ _ (.val _ rfl)
    | j + 2 => simp at hy
theorem y_lookup (hs : SRep num C s a) {t kt e : TypeId} {m k : Operand} {m' k' : Src} {kind : Nat} {zs : List Value} {agg ok : Bool} (ht : P.underlying t = some (.map kt e)) (hm : trSrc num m = some m') (hk : trSrc num k = some k') (hkt : keyKind P kt = some kind) (hz : zeroOf P e = some (zs, agg)) {call : Calls'} {r : AV} {s' : St}
    (h : exOp call s (.lookup kind zs agg m' k' ok) = some (r, s')) : Yields num P (.lookup t m k ok) ty pos after a C s r s' := by
  simp only [exOp] at h
  split at h
  · rename_i hik
    have hkr := src_rep hs hk
    have hmr := src_rep hs hm
    have hisk := keyKind_is hkt hkr hik
    obtain ⟨z, hzr, hza⟩ := zero_rep (num := num) hz C
    generalize hmv : s.env.ev m' = mv at h hmr
    split at h
    · have hv := rep_val hmr
      have : r = (if ok then .tup [zeroAV zs agg, .imm (.val (.bool false))] else zeroAV zs agg) ∧ s' = s := by
        cases ok <;> (simp at h; exact ⟨h.1.symm, h.2.symm⟩)
      obtain ⟨rfl, rfl⟩ := this
      refine yields_pure hs (fun _ _ => ?_) (out_rep hza ok false)
      have hd : ∃ d, P.underlying kt = some d := by
        unfold keyKind at hkt
        split at hkt <;> first | (rename_i hd; exact ⟨_, hd⟩) | skip
        cases hkt
      obtain ⟨d, hd⟩ := hd
      simp only [execOp, Instr.lookup, hv, Sem.run_bind, run_underlying ht, Result.andThen_ok, Sem.run_pure, run_check hisk _ 9999 (by decide), Instr.findKey, run_underlying hd, Instr.findNow, hzr]
    · rename_i id
      split at h
      · rename_i es hes
        obtain ⟨es', clock, hv, hb, hl, hall⟩ := map_of hs.mem hmr hes
        have hkeys : ∀ (j : Nat) (p : AV × AV) (x : MapEntry), es[j]? = some p → es'.toList[j]? = some x → ARep num C p.1 x.key := fun j p x hp hx => (hall j p x hp (by simpa using hx)).1
        split at h
        · rename_i hf
          obtain ⟨q, hq, hqe⟩ := run_find hs.mem hkt hkr (es' := es'.toList) (by simpa using hl) hkeys hf
          have : r = (if ok then .tup [zeroAV zs agg, .imm (.val (.bool false))] else zeroAV zs agg) ∧ s' = s := by
            cases ok <;> (simp at h; exact ⟨h.1.symm, h.2.symm⟩)
          obtain ⟨rfl, rfl⟩ := this
          refine yields_pure hs (fun _ _ => ?_) (out_rep hza ok false)
          simp only [Option.bind_none] at hqe
          subst hqe
          simp [execOp, Instr.lookup, hv, run_underlying ht, MapKept.run_getObj_map hb, run_check hisk _ 9999 (by decide), hq, hzr, Result.andThen]
        · rename_i i hf
          obtain ⟨q, hq, hqe⟩ := run_find hs.mem hkt hkr (es' := es'.toList) (by simpa using hl) hkeys hf
          cases hp : es[i]? with
          | none => rw [hp] at h; cases h
          | some p =>
            rw [hp] at h
            have hi : i < es'.size := by rw [hl]; exact (List.getElem?_eq_some_iff.1 hp).1
            have hx : es'[i]? = some es'[i] := by simp [hi]
            have : r = (if ok then .tup [p.2, .imm (.val (.bool true))] else p.2) ∧ s' = s := by
              cases ok <;> (simp at h; exact ⟨h.1.symm, h.2.symm⟩)
            obtain ⟨rfl, rfl⟩ := this
            refine yields_pure hs (fun _ _ => ?_) (out_rep (hall i p _ hp hx).2 ok true)
            simp only [Option.bind_some, Array.getElem?_toList, hx, Option.map_some] at hqe
            subst hqe
            simp [execOp, Instr.lookup, hv, run_underlying ht, MapKept.run_getObj_map hb, run_check hisk _ 9999 (by decide), hq, Result.andThen]
        · cases h
      · cases h
    · cases h
  · cases h
theorem y_mapSet (hs : SRep num C s a) {t kt e : TypeId} {m k x : Operand} {m' k' x' : Src} {kind : Nat} (ht : P.underlying t = some (.map kt e)) (hm : trSrc num m = some m') (hk : trSrc num k = some k') (hx : trSrc num x = some x') (hkt : keyKind P kt = some kind) {call : Calls'} {r : AV} {s' : St}
    (h : exOp call s (.mapSet kind m' k' x') = some (r, s')) {op : Op} (hop : op = .mapUpdate t m k x ∨ op = .insert t m k x) : Yields num P op ty pos after a C s r s' := by
  simp only [exOp] at h
  split at h
  · rename_i hik
    have hkr := src_rep hs hk
    have hmr := src_rep hs hm
    have hxr := src_rep hs hx
    have hisk := keyKind_is hkt hkr hik
    generalize hmv : s.env.ev m' = mv at h hmr
    split at h
    · rename_i id
      split at h
      · rename_i es hes
        obtain ⟨es', clock, hv, hb, hl, hall⟩ := map_of hs.mem hmr hes
        have hkeys : ∀ (j : Nat) (p : AV × AV) (x : MapEntry), es[j]? = some p → es'.toList[j]? = some x → ARep num C p.1 x.key := fun j p x hp hx => (hall j p x hp (by simpa using hx)).1
        have hexec : ∀ {w' : World}, (Instr.mapUpdate t (.map (some (C.σ id))) (a.eval k) (a.eval x)).run P C.w = .ok () w' → ∀ dst g, (execOp a.eval ⟨dst, op, ty, pos, after, g⟩).run P C.w = .ok .skip w' := by
          intro w' hw dst g
          rcases hop with rfl | rfl <;> simp [execOp, hv, hw, Result.andThen]
        have hset : ∀ (es2 : Array MapEntry) (clock2 : Nat), let w' := { C.w with heap := C.w.heap.setIfInBounds (C.σ id) (.map es2 clock2) }
            w'.heap[C.σ id]? = some (.map es2 clock2) ∧ (∀ b, b ≠ C.σ id → w'.heap[b]? = C.w.heap[b]?) ∧ w'.heap.size = C.w.heap.size := by
          intro es2 clock2
          exact ⟨(MapKept.heap_set hb).1, (MapKept.heap_set hb).2, by simp⟩
        have hno : ∀ arr e fz, C.w.heap[C.σ id]? ≠ some (.cells arr e fz) := fun arr e fz h => by rw [hb] at h; cases h
        have build : ∀ (es2 : Array MapEntry) (clock2 : Nat) (l : List (AV × AV)), es2.size = l.length → (∀ (j : Nat) (p : AV × AV) (y : MapEntry), l[j]? = some p → es2[j]? = some y → ARep num C p.1 y.key ∧ ARep num C p.2 y.val) →
            (Instr.mapUpdate t (.map (some (C.σ id))) (a.eval k) (a.eval x)).run P C.w = .ok () { C.w with heap := C.w.heap.setIfInBounds (C.σ id) (.map es2 clock2) } →
            Yields num P op ty pos after a C s .junk { s with mem := s.mem.set id (.map l) } := by
          intro es2 clock2 l hl2 hall2 hrun
          obtain ⟨h1, h2, h3⟩ := hset es2 clock2
          have ht2 := put_tr hs.mem hes rfl hno h2
          have hnew : ORep num { C with w := { C.w with heap := C.w.heap.setIfInBounds (C.σ id) (.map es2 clock2) } } id (.map l) := by
            refine ⟨es2, clock2, h1, hl2, fun j p y hp hy => ?_⟩
            obtain ⟨g1, g2⟩ := hall2 j p y hp hy
            exact ⟨g1.mono ht2, g2.mono ht2⟩
          refine ⟨undef, { C with w := { C.w with heap := C.w.heap.setIfInBounds (C.σ id) (.map es2 clock2) } }, fun dst g => .inr ⟨hexec hrun dst g, rfl⟩, put_step hs.mem hes rfl hno h2 rfl rfl rfl h3 rfl (o' := .map l) hnew hs.k, hs.env.mono ht2, .junk _, rfl⟩
        split at h
        · rename_i hf
          cases h
          obtain ⟨q, hq, hqe⟩ := run_find hs.mem hkt hkr (es' := es'.toList) (by simpa using hl) hkeys hf
          simp only [Option.bind_none] at hqe
          subst hqe
          refine build (es'.push { key := a.eval k, val := a.eval x, born := clock }) (clock + 1) _ (by simp [hl]) (fun j p y hp hy => ?_) ?_
          · rcases Nat.lt_or_ge j es.length with hj | hj
            · rw [List.getElem?_append_left hj] at hp
              rw [Array.getElem?_push, if_neg (by omega)] at hy
              exact hall j p y hp hy
            · have hj' : j = es.length := by
                have := (List.getElem?_eq_some_iff.1 hp).1
                simp at this; omega
              subst hj'
              simp at hp
              rw [Array.getElem?_push, if_pos hl.symm] at hy
              cases hy
              subst hp
              exact ⟨hkr, hxr⟩
          · simp [Instr.mapUpdate, run_underlying ht, MapKept.run_getObj_map hb, run_check hisk _ 9999 (by decide), hq, MapKept.run_setObj_map _ hb, Result.andThen]
        · rename_i i hf
          cases h
          obtain ⟨q, hq, hqe⟩ := run_find hs.mem hkt hkr (es' := es'.toList) (by simpa using hl) hkeys hf
          obtain ⟨_, p, hp, hke⟩ := findK_true es 0 i hf
          simp only [Nat.sub_zero] at hp
          have hi : i < es'.size := by rw [hl]; exact (List.getElem?_eq_some_iff.1 hp).1
          have hx' : es'[i]? = some es'[i] := by simp [hi]
          simp only [Option.bind_some, Array.getElem?_toList, hx', Option.map_some] at hqe
          subst hqe
          have hstay := key_stays (P := P) hkr (hall i p _ hp hx').1 hke C.w
          refine build (es'.modify i fun e => { e with key := a.eval k, val := a.eval x }) clock _ (by simp [hl]) (fun j p2 y hp2 hy => ?_) ?_
          · rw [set_get] at hp2
            rw [Array.getElem?_modify] at hy
            split at hp2
            · rename_i hij
              obtain ⟨rfl, _⟩ := hij
              cases hp2
              rw [if_pos rfl, hx'] at hy
              cases hy
              exact ⟨hkr, hxr⟩
            · rename_i hij
              have hne : i ≠ j := fun e => hij ⟨e, (List.getElem?_eq_some_iff.1 hp2).1⟩
              rw [if_neg hne] at hy
              exact hall j p2 y hp2 hy
          · simp [Instr.mapUpdate, run_underlying ht, MapKept.run_getObj_map hb, run_check hisk _ 9999 (by decide), hq, hx', hi, hstay, MapKept.run_setObj_map _ hb, Result.andThen]
        · cases h
      · cases h
    · cases h
  · cases h
theorem y_lenM (hs : SRep num C s a) {t kt e : TypeId} {x : Operand} {x' : Src} (hx : trSrc num x = some x') (ht : P.underlying t = some (.map kt e)) {call : Calls'} {r : AV} {s' : St} (h : exOp call s (.lenM x') = some (r, s')) :
    Yields num P (.call ⟨.builtin .len, #[x], #[t]⟩) ty pos after a C s r s' := by
  have hxr := src_rep hs hx
  simp only [exOp] at h
  generalize hmv : s.env.ev x' = mv at h hxr
  split at h
  · cases h
    have hv := rep_val hxr
    refine yields_pure hs (fun _ _ => ?_) (.imm _ _ (.val _ rfl))
    simp [execOp, resolve, invoke, builtin, hv, Builtin.len_, run_underlying ht, goInt]
  · rename_i id
    split at h
    · rename_i es hes
      cases h
      obtain ⟨es', clock, hv, hb, hl, hall⟩ := map_of hs.mem hxr hes
      refine yields_pure hs (fun _ _ => ?_) (.imm _ _ (.val _ rfl))
      simp [execOp, resolve, invoke, builtin, hv, Builtin.len_, run_underlying ht, MapKept.run_getObj_map hb, goInt, hl, Result.andThen]
    · cases h
  · cases h
end
end Go.EX


set_option linter.unusedVariables false
set_option linter.unusedSimpArgs false
namespace Go.EX
section
variable {num : Names} {P : Program}
variable {ty : TypeId} {pos : String} {after : Array Edge} {a : Act} {C : Cx} {s : St}
theorem lenOf_rep {x : AV} {v : Value} (h : ARep num C x v) {n : Nat} (hn : lenOf x = some n) : ∃ ba c, v = .slice ba n c := by
  unfold lenOf at hn
  split at hn
  · cases hn; have := rep_val h; subst this; exact ⟨_, _, rfl⟩
  · cases hn; cases h with | imm _ _ h => cases h with
      | slice => exact ⟨_, _, rfl⟩
      | vac => exact ⟨_, _, rfl⟩
  · cases hn; cases h with
      | osl => exact ⟨_, _, rfl⟩
  · cases hn
theorem shorten_rep {x : AV} {ba : Option Addr} {n c : Nat} (h : ARep num C x (.slice ba n c)) {k : Nat} (hk : k ≤ n) (h0 : k ≠ 0) (hn : lenOf x = some n) : ARep num C (shorten k x) (.slice ba k c) := by
  unfold lenOf at hn
  split at hn
  · cases hn; omega
  · cases hn; cases h with | imm _ _ h => cases h with
      | slice row off len cap b o c a u hb hc hu hl hkk ha => exact .imm _ _ (.slice _ _ k _ b o c a u hb hc hu (by omega) hkk ha)
      | vac => omega
  · cases hn; cases h with
      | osl id off sz len cap c a arr e hid hl hkk ha hw hs => exact .osl _ _ _ k _ c a arr e hid (by omega) hkk ha hw hs
  · cases hn
theorem first_none {w : World} (sz n : Nat) (ba : Option Addr) (len c : Nat) (h : n * sz = 0) : (Builtin.firstCells sz n (.slice ba len c)).run P w = .ok #[] w := by
  cases ba with
  | none => rfl
  | some ad =>
    simp only [Builtin.firstCells, h]
    have := run_loadCells (P := P) w ad 0 (fun _ => undef) (fun j hj => by omega)
    simpa using this
theorem y_copy (hs : SRep num C s a) {t u e : TypeId} {d x : Operand} {d' x' : Src} (hd : trSrc num d = some d') (hx : trSrc num x = some x') (ht : P.underlying t = some (.slice e)) (hk : known P e = true) {call : Calls'} {r : AV} {s' : St}
    (h : exOp call s (.copy (P.cellsOf e) d' x') = some (r, s')) : Yields num P (.call { callee := .builtin .copy, args := #[d, x], argTypes := #[t, u] }) ty pos after a C s r s' := by
  obtain ⟨i, de, hi, hde, hsz, _⟩ := known_some hk
  have hdr := src_rep hs hd
  have hxr := src_rep hs hx
  simp only [exOp] at h
  generalize hdv : s.env.ev d' = dv at h hdr
  generalize hxv : s.env.ev x' = xv at h hxr
  split at h
  · rename_i dl n hdl hn
    obtain ⟨db, dc, hde'⟩ := lenOf_rep hdr hdl
    obtain ⟨xb, xc, hxe⟩ := lenOf_rep hxr hn
    have hexec : ∀ {k : Nat} {w' : World}, (Builtin.copy_ #[t, u] ty #[.slice db dl dc, .slice xb n xc]).run P C.w = .ok (goInt k) w' → ∀ dst g, (execOp a.eval ⟨dst, .call { callee := .builtin .copy, args := #[d, x], argTypes := #[t, u] }, ty, pos, after, g⟩).run P C.w = .ok (.value (goInt k)) w' := by
      intro k w' hw dst g
      simp [execOp, resolve, invoke, builtin, hde', hxe, hw, Result.andThen]
    split at h
    · rename_i h0
      cases h
      refine yields_pure hs (v := goInt 0) (fun dst g => hexec (k := 0) ?_ dst g) (.imm _ _ (.val _ rfl))
      have h0' : Nat.min n dl = 0 := h0
      simp only [Builtin.copy_, List.getElem?_toArray, List.getElem?_cons_zero, List.getElem?_cons_succ, Sem.run_bind, run_underlying ht, Result.andThen_ok, Builtin.lenOf, Sem.run_pure, h0', run_sizeOf' hi, first_none _ 0 xb n xc (Nat.zero_mul _)]
      cases db <;> simp [storeCells]
    · rename_i h0
      split at h
      · rename_i id off sz' dl' dcap
        split at h
        · rename_i hszz
          subst hszz
          split at h
          · rename_i m cs hcs
            cases hst : storeAt s.mem (.optr id off) (cs.map .imm) with
            | none => rw [hst] at h; cases h
            | some m' =>
              rw [hst] at h
              simp only [Option.map_some, Option.some.injEq, Prod.mk.injEq] at h
              obtain ⟨rfl, rfl⟩ := h
              have hmn : min n dl ≤ n := Nat.min_le_left _ _
              have hmd : min n dl ≤ dl := Nat.min_le_right _ _
              rw [hxe] at hxr
              have hsr := shorten_rep hxr hmn h0 hn
              obtain ⟨us, hg⟩ := given_of (P := P) hs.mem hsr hcs
              have hm : m = min n dl := by
                have h1 := hg.len C.w
                simp [Builtin.lenOf] at h1
                exact h1.symm
              subst hm
              have hone : ∀ u ∈ us.toList, u.oneCell' = true := by
                intro u hu
                obtain ⟨j, hj⟩ := List.getElem?_of_mem hu
                have hjs : j < us.size := by simpa using (List.getElem?_eq_some_iff.1 hj).1
                have hjc : j < cs.length := by rw [hg.count, ← hg.size]; exact hjs
                obtain ⟨u', hu', hr⟩ := hg.rep j cs[j] (List.getElem?_eq_getElem hjc)
                have : u' = u := by have h2 := hu'.symm.trans (by simpa using hj); exact Option.some.inj h2
                subst this
                exact hr.one
              have hidr : ARep num C (.optr id off) (.pointer (some ⟨C.σ id, off, none⟩)) := by
                rw [hde'] at hdr
                cases hdr with
                | osl _ _ _ _ _ c ad arr e hid hl hkk ha hw hss => exact .optr _ _ hid
              obtain ⟨b, o, w', hv, hrun, hstep, htr⟩ := store_step (P := P) hs.mem hidr (us := us.toList) (by simp [hg.count, hg.size]) hone (fun j y u hy hu => by
                rw [List.getElem?_map] at hy
                cases hq : cs[j]? with
                | none => simp [hq] at hy
                | some q =>
                  simp [hq] at hy
                  subst hy
                  obtain ⟨u', hu', hr⟩ := hg.rep j q hq
                  have : u' = u := by have h2 := hu'.symm.trans (by simpa using hu); exact Option.some.inj h2
                  subst this
                  exact .imm _ _ hr) hst hs.k
              refine ⟨goInt (min n dl : Nat), { C with w := w' }, fun dst g => .inl (hexec (k := (min n dl)) ?_ dst g), hstep, hs.env.mono htr, .imm _ _ (.val _ rfl), rfl⟩
              have hdb : db = some ⟨b, o, none⟩ := by
                rw [hde'] at hdr
                have hl0 : dl ≠ 0 := by omega
                generalize hq : (Value.slice db dl dc) = q at hdr
                cases hdr with
                | osl _ _ _ _ _ c ad arr e hid hl hkk ha hw hss =>
                  simp only [Value.slice.injEq] at hq
                  obtain ⟨rfl, rfl, rfl⟩ := hq
                  simp only [Value.pointer.injEq, Option.some.injEq] at hv
                  rcases ha with ha | ha
                  · rw [ha]; exact congrArg some hv
                  · omega
              have hfc := hg.cells C.w rfl
              have hfc' : (Builtin.firstCells (P.cellsOf e) (Nat.min n dl) (.slice xb n xc)).run P C.w = .ok us C.w := by
                rw [← hfc]; cases xb <;> rfl
              simp only [Builtin.copy_, List.getElem?_toArray, List.getElem?_cons_zero, List.getElem?_cons_succ, Sem.run_bind, run_underlying ht, Result.andThen_ok, Builtin.lenOf, Sem.run_pure, run_sizeOf' hi, ← hsz, hfc', hdb, hrun]
          · cases h
        · cases h
      · cases h
  · cases h
theorem y_clear (hs : SRep num C s a) {t e : TypeId} {x : Operand} {x' : Src} {zs : List Value} (hx : trSrc num x = some x') (ht : P.underlying t = some (.slice e)) (hz : zeroCellsOf P e = some zs) (hk : known P e = true) (hone : zs.all oneCellV = true)
    (h0 : 0 < P.cellsOf e) (hzl : zs.length = P.cellsOf e) {call : Calls'} {r : AV} {s' : St} (h : exOp call s (.clear (P.cellsOf e) zs x') = some (r, s')) :
    Yields num P (.call { callee := .builtin .clear, args := #[x], argTypes := #[t] }) ty pos after a C s r s' := by
  obtain ⟨z, hzr, hzc⟩ := zero_run hz C.w
  have hzs : z.cells.size = P.cellsOf e := by rw [← hzl, ← hzc]; simp
  have hxr := src_rep hs hx
  simp only [exOp] at h
  generalize hxv : s.env.ev x' = xv at h hxr
  split at h
  · rename_i n hn
    obtain ⟨xb, xc, hxe⟩ := lenOf_rep hxr hn
    have hexec : ∀ {w' : World}, (Builtin.clear_ #[t] ty #[.slice xb n xc]).run P C.w = .ok (.tuple #[]) w' → ∀ dst g, (execOp a.eval ⟨dst, .call { callee := .builtin .clear, args := #[x], argTypes := #[t] }, ty, pos, after, g⟩).run P C.w = .ok (.value (.tuple #[])) w' := by
      intro w' hw dst g
      simp [execOp, resolve, invoke, builtin, hxe, hw, Result.andThen]
    split at h
    · rename_i hn0
      cases h
      subst hn0
      refine yields_pure hs (v := .tuple #[]) (fun dst g => hexec ?_ dst g) (.tup _ _ rfl (fun j x u hx => by simp at hx))
      cases xb <;> simp [Builtin.clear_, run_underlying ht]
    · rename_i hn0
      split at h
      · rename_i id off sz' dl' dcap
        split at h
        · rename_i hszz
          obtain ⟨rfl, _⟩ := hszz
          cases hst : storeAt s.mem (.optr id off) ((copies n zs).map fun z => .imm (.val z)) with
          | none => rw [hst] at h; cases h
          | some m' =>
            rw [hst] at h
            simp only [Option.map_some, Option.some.injEq, Prod.mk.injEq] at h
            obtain ⟨rfl, rfl⟩ := h
            have hidr : ARep num C (.optr id off) (.pointer (some ⟨C.σ id, off, none⟩)) := by
              rw [hxe] at hxr
              cases hxr with
              | osl _ _ _ _ _ c ad arr e hid hl hkk ha hw hss => exact .optr _ _ hid
            obtain ⟨b, o, w', hv, hrun, hstep, htr⟩ := store_step (P := P) hs.mem hidr (us := copies n zs) (by simp) (fun u hu => by
              rw [← oneCell_eq]; exact List.all_eq_true.1 (copies_all hone) u hu) (fun j y u hy hu => by
              rw [List.getElem?_map, hu] at hy
              simp at hy
              subst hy
              refine .imm _ _ (.val _ ?_)
              rw [← oneCell_eq]; exact List.all_eq_true.1 (copies_all hone) u (List.mem_of_getElem? hu)) hst hs.k
            refine ⟨.tuple #[], { C with w := w' }, fun dst g => .inl (hexec ?_ dst g), hstep, hs.env.mono htr, .tup _ _ rfl (fun j x u hx => by simp at hx), rfl⟩
            have hdb : xb = some ⟨b, o, none⟩ := by
              rw [hxe] at hxr
              generalize hq : (Value.slice xb n xc) = q at hxr
              cases hxr with
              | osl _ _ _ _ _ c ad arr e hid hl hkk ha hw hss =>
                simp only [Value.slice.injEq] at hq
                obtain ⟨rfl, rfl, rfl⟩ := hq
                simp only [Value.pointer.injEq, Option.some.injEq] at hv
                rcases ha with ha | ha
                · rw [ha]; exact congrArg some hv
                · omega
            subst hdb
            obtain ⟨n1, rfl⟩ : ∃ n1, n = n1 + 1 := ⟨n - 1, by omega⟩
            have hcz : (Builtin.zeroCells z.cells (n1 + 1)).toList = copies (n1 + 1) zs := by
              rw [← hzc, ← range_cells z.cells (n1 + 1) (P.cellsOf e) hzs h0]; simp [Builtin.zeroCells, hzs]
            simp [Builtin.clear_, run_underlying ht, hzr, hcz, hrun, Result.andThen]
        · cases h
      · cases h
  · cases h
end
end Go.EX


set_option linter.unusedVariables false
set_option linter.unusedSimpArgs false
namespace Go.EX
theorem refsL_mem : ∀ {l : List AV} {id : Nat}, id ∈ AV.refs.refsL l ↔ ∃ x ∈ l, id ∈ x.refs
  | [], id => by simp [AV.refs.refsL]
  | x :: r, id => by simp [AV.refs.refsL, refsL_mem (l := r)]
mutual
theorem ren_congr {f g : Nat → Option Nat} : ∀ (x : AV), (∀ id ∈ x.refs, f id = g id) → x.ren f = x.ren g
  | .imm _, _ => rfl
  | .osl id .., h => by simp only [AV.ren, h id (by simp [AV.refs])]
  | .optr id _, h => by simp only [AV.ren, h id (by simp [AV.refs])]
  | .omap id, h => by simp only [AV.ren, h id (by simp [AV.refs])]
  | .yld id, h => by simp only [AV.ren, h id (by simp [AV.refs])]
  | .seat id _, h => by simp only [AV.ren, h id (by simp [AV.refs])]
  | .clo fn caps, h => by simp only [AV.ren, renL_congr caps h]
  | .agg cells, h => by simp only [AV.ren, renL_congr cells h]
  | .tup vs, h => by simp only [AV.ren, renL_congr vs h]
  | .junk, _ => rfl
theorem renL_congr {f g : Nat → Option Nat} : ∀ (l : List AV), (∀ id ∈ AV.refs.refsL l, f id = g id) → AV.ren.renL f l = AV.ren.renL g l
  | [], _ => rfl
  | x :: r, h => by
    simp only [AV.ren.renL]
    rw [ren_congr x fun id hid => h id (by simp only [AV.refs.refsL, List.mem_append]; exact .inl hid), renL_congr r fun id hid => h id (by simp only [AV.refs.refsL, List.mem_append]; exact .inr hid)]
end
theorem ren_id {f : Nat → Option Nat} {x : AV} (h : ∀ id ∈ x.refs, f id = some id) : x.ren f = x := by
  rw [ren_congr x (g := some) h, ren_some]
mutual
theorem ren_ren {f g : Nat → Option Nat} : ∀ (x : AV), (x.ren g).ren f = x.ren fun i => (g i).bind f
  | .imm _ => rfl
  | .osl id .. => by simp only [AV.ren]; cases g id <;> rfl
  | .optr id _ => by simp only [AV.ren]; cases g id <;> rfl
  | .omap id => by simp only [AV.ren]; cases g id <;> rfl
  | .yld id => by simp only [AV.ren]; cases g id <;> rfl
  | .seat id _ => by simp only [AV.ren]; cases g id <;> rfl
  | .clo fn caps => by simp only [AV.ren, renL_renL caps]
  | .agg cells => by simp only [AV.ren, renL_renL cells]
  | .tup vs => by simp only [AV.ren, renL_renL vs]
  | .junk => rfl
theorem renL_renL {f g : Nat → Option Nat} : ∀ (l : List AV), AV.ren.renL f (AV.ren.renL g l) = AV.ren.renL (fun i => (g i).bind f) l
  | [] => rfl
  | x :: r => by simp only [AV.ren.renL, ren_ren x, renL_renL r]
end
mutual
theorem ren_refs {f : Nat → Option Nat} : ∀ (x : AV) (id : Nat), id ∈ (x.ren f).refs → ∃ i ∈ x.refs, f i = some id
  | .imm _, id, h => by simp [AV.ren, AV.refs] at h
  | .osl i .., id, h => by
    simp only [AV.ren] at h
    cases hf : f i with
    | none => simp [hf, AV.refs] at h
    | some j => simp [hf, AV.refs] at h; exact ⟨i, by simp [AV.refs], by rw [hf, h]⟩
  | .optr i _, id, h => by
    simp only [AV.ren] at h
    cases hf : f i with
    | none => simp [hf, AV.refs] at h
    | some j => simp [hf, AV.refs] at h; exact ⟨i, by simp [AV.refs], by rw [hf, h]⟩
  | .omap i, id, h => by
    simp only [AV.ren] at h
    cases hf : f i with
    | none => simp [hf, AV.refs] at h
    | some j => simp [hf, AV.refs] at h; exact ⟨i, by simp [AV.refs], by rw [hf, h]⟩
  | .yld i, id, h => by
    simp only [AV.ren] at h
    cases hf : f i with
    | none => simp [hf, AV.refs] at h
    | some j => simp [hf, AV.refs] at h; exact ⟨i, by simp [AV.refs], by rw [hf, h]⟩
  | .seat i _, id, h => by
    simp only [AV.ren] at h
    cases hf : f i with
    | none => simp [hf, AV.refs] at h
    | some j => simp [hf, AV.refs] at h; exact ⟨i, by simp [AV.refs], by rw [hf, h]⟩
  | .clo fn caps, id, h => by simp only [AV.ren, AV.refs] at h ⊢; exact renL_refs caps id h
  | .agg cells, id, h => by simp only [AV.ren, AV.refs] at h ⊢; exact renL_refs cells id h
  | .tup vs, id, h => by simp only [AV.ren, AV.refs] at h ⊢; exact renL_refs vs id h
  | .junk, id, h => by simp [AV.ren, AV.refs] at h
theorem renL_refs {f : Nat → Option Nat} : ∀ (l : List AV) (id : Nat), id ∈ AV.refs.refsL (AV.ren.renL f l) → ∃ i ∈ AV.refs.refsL l, f i = some id
  | [], id, h => by simp [AV.ren.renL, AV.refs.refsL] at h
  | x :: r, id, h => by
    simp only [AV.ren.renL, AV.refs.refsL, List.mem_append] at h ⊢
    rcases h with h | h
    · obtain ⟨i, hi, e⟩ := ren_refs x id h; exact ⟨i, .inl hi, e⟩
    · obtain ⟨i, hi, e⟩ := renL_refs r id h; exact ⟨i, .inr hi, e⟩
end
theorem env_roots_mem : ∀ {e : Env} {id : Nat}, id ∈ Env.roots e ↔ ∃ p ∈ e, id ∈ p.2.refs
  | [], id => by simp [Env.roots]
  | (k, v) :: r, id => by simp [Env.roots, env_roots_mem (e := r)]
theorem env_ren_congr {f g : Nat → Option Nat} : ∀ (e : Env), (∀ id ∈ Env.roots e, f id = g id) → Env.ren f e = Env.ren g e
  | [], _ => rfl
  | (k, v) :: r, h => by
    simp only [Env.ren]
    rw [ren_congr v fun id hid => h id (by simp only [Env.roots, List.mem_append]; exact .inl hid), env_ren_congr r fun id hid => h id (by simp only [Env.roots, List.mem_append]; exact .inr hid)]
theorem env_ren_ren {f g : Nat → Option Nat} : ∀ (e : Env), (e.ren g).ren f = e.ren fun i => (g i).bind f
  | [] => rfl
  | (k, v) :: r => by simp only [Env.ren, ren_ren v, env_ren_ren r]
theorem env_ren_refs {f : Nat → Option Nat} {e : Env} {id : Nat} (h : id ∈ Env.roots (e.ren f)) : ∃ i ∈ Env.roots e, f i = some id := by
  obtain ⟨q, hq, hid⟩ := env_roots_mem.1 h
  obtain ⟨p, hp, rfl⟩ := env_ren_mem hq
  obtain ⟨i, hi, he⟩ := ren_refs p.2 id hid
  exact ⟨i, env_roots_mem.2 ⟨p, hp, hi⟩, he⟩
theorem obj_ren_congr {f g : Nat → Option Nat} (o : AObj) (h : ∀ id ∈ o.refs, f id = g id) : o.ren f = o.ren g := by
  cases o with
  | flat => rfl
  | rich cs => simp only [AObj.ren]; rw [renL_congr cs h]
  | map es =>
    simp only [AObj.ren, AObj.map.injEq]
    refine List.map_congr_left fun p hp => ?_
    rw [ren_congr p.1 fun id hid => h id (by simp only [AObj.refs, List.mem_append]; exact .inl (refsL_mem.2 ⟨p.1, List.mem_map.2 ⟨p, hp, rfl⟩, hid⟩)), ren_congr p.2 fun id hid => h id (by simp only [AObj.refs, List.mem_append]; exact .inr (refsL_mem.2 ⟨p.2, List.mem_map.2 ⟨p, hp, rfl⟩, hid⟩))]
  | dead => rfl
  | fix => rfl
  | loop env ps as b y => simp only [AObj.ren]; rw [env_ren_congr env h]
  | text => rfl
theorem obj_ren_id {f : Nat → Option Nat} {o : AObj} (h : ∀ id ∈ o.refs, f id = some id) : o.ren f = o := by
  rw [obj_ren_congr o (g := some) h, obj_ren_some]
theorem obj_ren_ren {f g : Nat → Option Nat} (o : AObj) : (o.ren g).ren f = o.ren fun i => (g i).bind f := by
  cases o with
  | flat => rfl
  | rich cs => simp only [AObj.ren, renL_renL]
  | map es => simp only [AObj.ren, List.map_map, AObj.map.injEq]; exact List.map_congr_left fun p _ => by simp only [Function.comp, ren_ren]
  | dead => rfl
  | fix => rfl
  | loop env ps as b y => simp only [AObj.ren, env_ren_ren]
  | text => rfl
theorem obj_ren_refs {f : Nat → Option Nat} (o : AObj) (id : Nat) (h : id ∈ (o.ren f).refs) : ∃ i ∈ o.refs, f i = some id := by
  cases o with
  | flat => simp [AObj.ren, AObj.refs] at h
  | rich cs => simp only [AObj.ren, AObj.refs] at h ⊢; exact renL_refs cs id h
  | map es =>
    simp only [AObj.ren, AObj.refs, List.mem_append] at h ⊢
    rcases h with h | h
    · obtain ⟨x, hx, hid⟩ := refsL_mem.1 h
      simp only [List.map_map, List.mem_map, Function.comp] at hx
      obtain ⟨p, hp, rfl⟩ := hx
      obtain ⟨i, hi, e⟩ := ren_refs p.1 id hid
      exact ⟨i, .inl (refsL_mem.2 ⟨p.1, List.mem_map.2 ⟨p, hp, rfl⟩, hi⟩), e⟩
    · obtain ⟨x, hx, hid⟩ := refsL_mem.1 h
      simp only [List.map_map, List.mem_map, Function.comp] at hx
      obtain ⟨p, hp, rfl⟩ := hx
      obtain ⟨i, hi, e⟩ := ren_refs p.2 id hid
      exact ⟨i, .inr (refsL_mem.2 ⟨p.2, List.mem_map.2 ⟨p, hp, rfl⟩, hi⟩), e⟩
  | dead => simp [AObj.ren, AObj.refs] at h
  | fix => simp [AObj.ren, AObj.refs] at h
  | loop env ps as b y => simp only [AObj.ren, AObj.refs] at h ⊢; exact env_ren_refs h
  | text => simp [AObj.ren, AObj.refs] at h
theorem env_ren_id {f : Nat → Option Nat} (h : ∀ id, f id = some id) : ∀ (e : Env), e.ren f = e
  | [] => rfl
  | (k, v) :: r => by simp only [Env.ren, env_ren_id h r, ren_id fun id _ => h id]
theorem orMoved_false (o : AObj) : o.orMoved false = o := orMoved_no o
theorem plain1_ren {x : AV} {f : Nat → Option Nat} (h : (x.ren f).plain1 = true) (g : Nat → Option Nat) : x.ren g = x.ren f := by
  cases x with
  | imm v => rfl
  | osl id => simp only [AV.ren] at h; split at h <;> cases h
  | optr id => simp only [AV.ren] at h; split at h <;> cases h
  | omap id => simp only [AV.ren] at h; split at h <;> cases h
  | yld id => simp only [AV.ren] at h; split at h <;> cases h
  | seat id => simp only [AV.ren] at h; split at h <;> cases h
  | _ => first | rfl | cases h
theorem plainL1_ren {f : Nat → Option Nat} (g : Nat → Option Nat) : ∀ {l : List AV}, (AV.ren.renL f l).all AV.plain1 = true → AV.ren.renL g l = AV.ren.renL f l
  | [], _ => rfl
  | x :: l, h => by
    simp only [AV.ren.renL, List.all_cons, Bool.and_eq_true] at h ⊢
    rw [plain1_ren h.1 g, plainL1_ren g h.2]
theorem plain2_ren {x : AV} {f : Nat → Option Nat} (h : (x.ren f).plain2 = true) (g : Nat → Option Nat) : x.ren g = x.ren f := by
  cases x with
  | agg cs => simp only [AV.ren, AV.plain2] at h ⊢; rw [plainL1_ren g h]
  | imm v => rfl
  | osl id => simp only [AV.ren] at h; split at h <;> cases h
  | optr id => simp only [AV.ren] at h; split at h <;> cases h
  | omap id => simp only [AV.ren] at h; split at h <;> cases h
  | yld id => simp only [AV.ren] at h; split at h <;> cases h
  | seat id => simp only [AV.ren] at h; split at h <;> cases h
  | _ => first | rfl | cases h
theorem plainL2_ren {f : Nat → Option Nat} (g : Nat → Option Nat) : ∀ {l : List AV}, (AV.ren.renL f l).all AV.plain2 = true → AV.ren.renL g l = AV.ren.renL f l
  | [], _ => rfl
  | x :: l, h => by
    simp only [AV.ren.renL, List.all_cons, Bool.and_eq_true] at h ⊢
    rw [plain2_ren h.1 g, plainL2_ren g h.2]
theorem plain_ren {x : AV} {f : Nat → Option Nat} (h : (x.ren f).plain = true) (g : Nat → Option Nat) : x.ren g = x.ren f := by
  cases x with
  | tup cs => simp only [AV.ren, AV.plain] at h ⊢; rw [plainL2_ren g h]
  | agg cs => exact plain2_ren (by simpa only [AV.ren, AV.plain] using h) g
  | imm v => rfl
  | osl id => simp only [AV.ren] at h; split at h <;> cases h
  | optr id => simp only [AV.ren] at h; split at h <;> cases h
  | omap id => simp only [AV.ren] at h; split at h <;> cases h
  | yld id => simp only [AV.ren] at h; split at h <;> cases h
  | seat id => simp only [AV.ren] at h; split at h <;> cases h
  | _ => first | rfl | cases h
theorem plain_ren_id {x : AV} (h : x.plain = true) (g : Nat → Option Nat) : x.ren g = x := by
  have := plain_ren (x := x) (f := some) (by rw [ren_some]; exact h) g
  rwa [ren_some] at this
theorem peek_share {call : Calls'} {s : St} {fn : Nat} {args : List AV} {r : AV} {s' : St} (h : exPeek call s fn args = some (r, s')) : s' = s ∧ r.plain = true ∧ exShare call s fn args = some (r, s) := by
  unfold exPeek at h
  unfold exShare
  dsimp only at h ⊢
  obtain ⟨hnd, hlt, _⟩ := order_props (k := 0) (roots := AV.refs.refsL args) (m := s.mem) (Nat.zero_le _)
  generalize order 0 (AV.refs.refsL args) s.mem = l at *
  cases hc : call fn (AV.ren.renL (place l) args) (s.mem.pickAll l) with
  | none => simp [hc] at h
  | some rm =>
    obtain ⟨rv, mc⟩ := rm
    simp only [hc] at h ⊢
    split at h
    case isFalse => cases h
    rename_i hq
    obtain ⟨rfl, hp, hall⟩ := hq
    simp only [Option.some.injEq, Prod.mk.injEq] at h
    obtain ⟨rfl, rfl⟩ := h
    refine ⟨rfl, hp, ?_⟩
    have hpl : (s.mem.pickAll l).length = l.length := by simp [Mem.pickAll]
    have hget : ∀ (i id : Nat), l[i]? = some id → (s.mem.pickAll l)[i]? = some (((s.mem[id]?).getD .dead).ren (place l)) := by
      intro i id hi; simp [Mem.pickAll, hi]
    have hok : ∀ id ∈ l, ((s.mem[id]?).getD .dead).moved = false ∧ ∀ j ∈ ((s.mem[id]?).getD .dead).refs, j ∈ l := by
      intro id hid
      have := List.all_eq_true.1 hall id hid
      simp only [Bool.and_eq_true, Bool.not_eq_true', List.all_eq_true, List.contains_iff_mem] at this
      exact this.2
    have hsok : shareOk s.mem l = true := by
      simp only [shareOk, Bool.or_eq_true]
      left
      rw [List.all_eq_true] at hall ⊢
      intro id hid
      have := hall id hid
      simp only [Bool.and_eq_true] at this
      exact this.1
    rw [if_neg (by rw [hsok]; decide)]
    have hstay : ∀ id, (match place l id with
      | some i => if (((s.mem.pickAll l)[i]?).getD .dead).moved then none else some id
      | none => some id) = some id := by
      intro id
      cases hpi : place l id with
      | none => rfl
      | some i =>
        have hi := place_get l id i hpi
        simp only [hget i id hi, Option.getD_some]
        have hm := (hok id (List.mem_of_getElem? hi)).1
        have : (((s.mem[id]?).getD .dead).ren (place l)).moved = false := by rw [← hm]; cases (s.mem[id]?).getD .dead <;> rfl
        simp [this]
    rw [plain_ren_id hp]
    have hmem : ∀ back stay : Nat → Option Nat, (∀ i, i < l.length → back i = l[i]?) → (∀ id, stay id = some id) → (List.range (s.mem.length + ((s.mem.pickAll l).length - l.length))).map (shareAt s l (s.mem.pickAll l) back stay) = s.mem := by
      intro back stay hback hst
      rw [hpl, Nat.sub_self, Nat.add_zero]
      apply List.ext_getElem?
      intro id
      rcases Nat.lt_or_ge id s.mem.length with hlt' | hge
      · rw [List.getElem?_map, List.getElem?_range hlt', List.getElem?_eq_getElem hlt']
        simp only [Option.map_some, Option.some.injEq]
        unfold shareAt
        have hg : (s.mem[id]?).getD .dead = s.mem[id] := by rw [List.getElem?_eq_getElem hlt']; rfl
        cases hpi : place l id with
        | none =>
          simp only [hlt', if_true, hg]
          exact obj_ren_id fun j _ => hst j
        | some i =>
          have hi := place_get l id i hpi
          obtain ⟨hm, hcl⟩ := hok id (List.mem_of_getElem? hi)
          simp only [hget i id hi, Option.getD_some, hg] at hm hcl ⊢
          rw [hm, orMoved_false, obj_ren_ren]
          refine obj_ren_id fun j hj => ?_
          have hjl := hcl j hj
          cases hpj : place l j with
          | none =>
            obtain ⟨q, hq⟩ := List.getElem?_of_mem hjl
            rw [place_of l j q hnd hq] at hpj; cases hpj
          | some q =>
            have hq := place_get l j q hpj
            simp only [Option.bind_some]
            rw [hback q (List.getElem?_eq_some_iff.1 hq).1, hq]
      · rw [List.getElem?_eq_none (by simpa using hge), List.getElem?_eq_none hge]
    refine congrArg (fun u : St => some (rv, u)) (?_ : St.mk s.k _ _ = St.mk s.k s.env s.mem)
    rw [St.mk.injEq]
    exact ⟨rfl, env_ren_id hstay _, hmem _ _ (fun i hi => if_pos hi) hstay⟩
theorem look_share {call : Calls'} {s : St} {fn : Nat} {args : List AV} {r : AV} {s' : St} (h : exLook call s fn args = some (r, s')) : exShare call s fn args = some (r, s') := by
  unfold exLook at h
  unfold exShare
  dsimp only at h ⊢
  obtain ⟨hnd, hlt, _⟩ := order_props (k := 0) (roots := AV.refs.refsL args) (m := s.mem) (Nat.zero_le _)
  generalize order 0 (AV.refs.refsL args) s.mem = l at *
  cases hc : call fn (AV.ren.renL (place l) args) (s.mem.pickAll l) with
  | none => simp [hc] at h
  | some rm =>
    obtain ⟨rv, mc⟩ := rm
    simp only [hc] at h ⊢
    split at h
    case isFalse => cases h
    rename_i hq
    obtain ⟨hmc, hall⟩ := hq
    rw [Bool.and_eq_true] at hall
    replace hall := hall.1
    simp only [Option.some.injEq, Prod.mk.injEq] at h
    obtain ⟨rfl, rfl⟩ := h
    have hpl : (s.mem.pickAll l).length = l.length := by simp [Mem.pickAll]
    have hml : l.length ≤ mc.length := by
      have := congrArg List.length hmc
      rw [List.length_take, hpl] at this
      omega
    have hget : ∀ (i id : Nat), l[i]? = some id → mc[i]? = some (((s.mem[id]?).getD .dead).ren (place l)) := by
      intro i id hi
      have hil := (List.getElem?_eq_some_iff.1 hi).1
      have h1 : (mc.take l.length)[i]? = mc[i]? := by rw [List.getElem?_take, if_pos hil]
      rw [← h1, hmc]
      simp [Mem.pickAll, hi]
    have hok : ∀ id ∈ l, ((s.mem[id]?).getD .dead).moved = false ∧ ∀ j ∈ ((s.mem[id]?).getD .dead).refs, j ∈ l := by
      intro id hid
      have := List.all_eq_true.1 hall id hid
      simp only [Bool.and_eq_true, Bool.not_eq_true', List.all_eq_true, List.contains_iff_mem] at this
      exact this.2
    have hsok : shareOk s.mem l = true := by
      simp only [shareOk, Bool.or_eq_true]
      left
      rw [List.all_eq_true] at hall ⊢
      intro id hid
      have := hall id hid
      simp only [Bool.and_eq_true] at this
      exact this.1
    rw [if_neg (by rw [hsok]; decide)]
    have hstay : ∀ id, (match place l id with
      | some i => if ((mc[i]?).getD .dead).moved then none else some id
      | none => some id) = some id := by
      intro id
      cases hpi : place l id with
      | none => rfl
      | some i =>
        have hi := place_get l id i hpi
        simp only [hget i id hi, Option.getD_some]
        have hm := (hok id (List.mem_of_getElem? hi)).1
        have : (((s.mem[id]?).getD .dead).ren (place l)).moved = false := by rw [← hm]; cases (s.mem[id]?).getD .dead <;> rfl
        simp [this]
    have hmem : ∀ back stay : Nat → Option Nat, (∀ i, i < l.length → back i = l[i]?) → (∀ id, stay id = some id) → (List.range (s.mem.length + (mc.length - l.length))).map (shareAt s l mc back stay) = s.mem ++ (mc.drop l.length).map (AObj.ren back) := by
      intro back stay hback hst
      apply List.ext_getElem?
      intro id
      rcases Nat.lt_or_ge id s.mem.length with hlt' | hge
      · rw [List.getElem?_map, List.getElem?_range (by omega), List.getElem?_append_left hlt', List.getElem?_eq_getElem hlt']
        simp only [Option.map_some, Option.some.injEq]
        unfold shareAt
        have hg : (s.mem[id]?).getD .dead = s.mem[id] := by rw [List.getElem?_eq_getElem hlt']; rfl
        cases hpi : place l id with
        | none =>
          simp only [hlt', if_true, hg]
          exact obj_ren_id fun j _ => hst j
        | some i =>
          have hi := place_get l id i hpi
          obtain ⟨hm, hcl⟩ := hok id (List.mem_of_getElem? hi)
          simp only [hget i id hi, Option.getD_some, hg] at hm hcl ⊢
          rw [hm, orMoved_false, obj_ren_ren]
          refine obj_ren_id fun j hj => ?_
          have hjl := hcl j hj
          cases hpj : place l j with
          | none =>
            obtain ⟨q, hq⟩ := List.getElem?_of_mem hjl
            rw [place_of l j q hnd hq] at hpj; cases hpj
          | some q =>
            have hq := place_get l j q hpj
            simp only [Option.bind_some]
            rw [hback q (List.getElem?_eq_some_iff.1 hq).1, hq]
      · rcases Nat.lt_or_ge id (s.mem.length + (mc.length - l.length)) with hlt' | hge'
        · have hnone : place l id = none := place_none fun hmem => by have := hlt _ hmem; omega
          rw [List.getElem?_map, List.getElem?_range hlt', List.getElem?_append_right hge, List.getElem?_map, List.getElem?_drop]
          have hi : l.length + (id - s.mem.length) < mc.length := by omega
          simp only [Option.map_some, List.getElem?_eq_getElem hi, Option.some.injEq]
          unfold shareAt
          simp only [hnone, if_neg (Nat.not_lt.2 hge), List.getElem?_eq_getElem hi, Option.getD_some]
        · rw [List.getElem?_eq_none (by simpa using hge'), List.getElem?_eq_none (by simp; omega)]
    refine congrArg (fun u : St => some (rv.ren _, u)) (?_ : St.mk s.k _ _ = St.mk s.k s.env _)
    rw [St.mk.injEq]
    exact ⟨rfl, env_ren_id hstay _, hmem _ _ (fun i hi => if_pos hi) hstay⟩
end Go.EX


set_option linter.unusedVariables false
set_option linter.unusedSimpArgs false
namespace Go.EX
section
variable {num : Names} {P : Program}
variable {ty : TypeId} {pos : String} {after : Array Edge} {a : Act} {C : Cx} {s : St}
theorem cut_whole {α : Type} (l : List α) (n : Nat) (h : l.length = n) : cut l 0 n = some l := by
  subst h
  simp [cut]
theorem claimK_step {m : Mem} (hm : MRep num C m) {id : Nat} {o : AObj} (ho : m[id]? = some o) {cs : List IV} {mv : Bool} (hoc : o = .flat cs mv ∨ o = .fix cs mv true) {w' : World} {nb : Nat} (hnb : nb = C.σ id ∨ (C.w.heap.size ≤ nb))
    (hos : w'.os = C.w.os) (htp : w'.tape = C.w.tape) (hout : w'.output = C.w.output) (hsize : C.w.heap.size ≤ w'.heap.size)
    (hw : ∀ b, b < C.w.heap.size → b ≠ C.σ id → w'.heap[b]? = C.w.heap[b]?)
    (hrow : ∀ arr e, C.w.heap[C.σ id]? = some (.cells arr e (0, 0)) → ∃ arr', w'.heap[C.σ id]? = some (.cells arr' e (0, 0)) ∧ arr'.size = arr.size ∧ ∀ j : Nat, j < cs.length → arr'[j]? = arr[j]?)
    {news : List IV} (hr : ORep num (C.claim nb w') C.n (.fix (cs ++ news) false true)) {k : Nat} (hk : k ≤ m.length) :
    Step num k C m (C.claim nb w') (m.set id (.fix cs mv false) ++ [.fix (cs ++ news) false true]) ∧ Tr some C (C.claim nb w') := by
  have hlo : o.live = true := by rcases hoc with rfl | rfl <;> rfl
  have hmo : o.moved = mv := by rcases hoc with rfl | rfl <;> rfl
  have hoo : ORep num C id (.fix cs mv false) := by
    have := hm.obj id o ho
    rcases hoc with rfl | rfl <;> exact this
  have hsz : ∀ n e, RowAt C.w (C.σ id) n e → RowAt (w') (C.σ id) n e := fun arr e h => by
    obtain ⟨arr0, e0, h0, _⟩ := hoo
    obtain ⟨arr', h1, h2, _⟩ := hrow arr0 e0 h0
    exact h.put h0 h1 h2
  have ht := claim_tr (nb := nb) hm ho hlo hw hsz
  refine ⟨?_, ht⟩
  have hid : id < m.length := (List.getElem?_eq_some_iff.1 ho).1
  have hlen := hm.len
  have hσ : ∀ i, i < m.length → (C.claim nb w').σ i = C.σ i := fun i hi => by simp only [Cx.claim]; rw [if_neg (by omega)]
  have hσn : (C.claim nb w').σ C.n = nb := by simp [Cx.claim]
  have hsh : ∀ (j : Nat) p, m[j]? = some p → p.live = true → C.σ j = C.σ id → j = id ∨ ∃ a b, p = .fix a b false ∧ a.length ≤ cs.length := by
    intro j p hp hl he
    rcases hm.inj j id p o hp ho hl hlo he with h | h
    · exact .inl h
    · right
      rcases hoc with rfl | rfl
      · have := (twin_fix h).2; cases this
      · cases p with
        | fix a b t =>
          simp only [AObj.twin] at h
          obtain ⟨h1, h2, h3⟩ := h
          cases t with
          | true => cases h1
          | false => exact ⟨a, b, rfl, h3 trivial⟩
        | _ => cases h
  have hkeep : ∀ (j : Nat) (a : List IV) (b t t' : Bool), j < m.length → ORep num C j (.fix a b t) → C.σ j = C.σ id → a.length ≤ cs.length → ORep num (C.claim nb w') j (.fix a b t') := by
    intro j a b t t' hj hrep he hle
    obtain ⟨arr, e, h1, h2⟩ := hrep
    rw [he] at h1
    obtain ⟨arr', h3, _, h5⟩ := hrow arr e h1
    refine ⟨arr', e, by rw [hσ j hj, he]; exact h3, fun i x hx => ?_⟩
    obtain ⟨u, hu, hr'⟩ := h2 i x hx
    have hi : i < a.length := (List.getElem?_eq_some_iff.1 hx).1
    exact ⟨u, by rw [h5 i (by omega)]; exact hu, hr'.mono ht.imm ht.keep⟩
  have split : ∀ (i : Nat) (q : AObj), (m.set id (.fix cs mv false) ++ [.fix (cs ++ news) false true])[i]? = some q → (i < m.length ∧ i ≠ id ∧ m[i]? = some q) ∨ (i = id ∧ q = .fix cs mv false) ∨ (i = C.n ∧ q = .fix (cs ++ news) false true) := by
    intro i q hq
    rcases Nat.lt_or_ge i m.length with h | h
    · rw [List.getElem?_append_left (by rw [List.length_set]; exact h), set_get] at hq
      split at hq
      · rename_i hi; exact .inr (.inl ⟨hi.1.symm, (Option.some.inj hq).symm⟩)
      · rename_i hi; exact .inl ⟨h, fun e => hi ⟨e.symm, by rw [e]; exact hid⟩, hq⟩
    · rw [List.getElem?_append_right (by rw [List.length_set]; exact h), List.length_set] at hq
      have h0 : i - m.length = 0 := by
        rcases Nat.eq_zero_or_pos (i - m.length) with h0 | h0
        · exact h0
        · rw [List.getElem?_eq_none (by simp; omega)] at hq; cases hq
      rw [h0] at hq
      exact .inr (.inr ⟨by omega, by simpa using hq.symm⟩)
  have hlt : ∀ i q, m[i]? = some q → q.live = true → C.σ i < C.w.heap.size := fun i q hq hl => MRep.lt num hm ⟨i, q, hq, hl, rfl⟩
  have hown : ∀ b, Own (C.claim nb w') (m.set id (.fix cs mv false) ++ [.fix (cs ++ news) false true]) b → C.w.heap.size ≤ b ∨ Own C m b := by
    rintro b ⟨i, q, hq, hl, hb⟩
    rcases split i q hq with ⟨hi, hne, hq'⟩ | ⟨rfl, rfl⟩ | ⟨rfl, rfl⟩
    · rw [hσ i hi] at hb; exact .inr ⟨i, q, hq', hl, hb⟩
    · rw [hσ i hid] at hb; exact .inr ⟨i, o, ho, hlo, hb⟩
    · rw [hσn] at hb
      rcases hnb with h | h
      · exact .inr ⟨id, o, ho, hlo, by rw [← hb, h]⟩
      · exact .inl (by omega)
  refine ⟨⟨by simp [Cx.claim, hlen], ?_, ?_, ?_, fun b hb => Nat.lt_of_lt_of_le (hm.bd b hb) hsize, num.up hm.glo ht.imm ht.keep⟩, hos, htp, hout, hsize, ?_, ?_, fun _ h => h, fun _ h => .inl h, hown, ?_, by simp; omega⟩
  · intro i q hq
    rcases split i q hq with ⟨hi, hne, hq'⟩ | ⟨rfl, rfl⟩ | ⟨rfl, rfl⟩
    · by_cases hlq : q.live = true
      · by_cases he : C.σ i = C.σ id
        · rcases hsh i q hq' hlq he with h | ⟨a, b, rfl, hle⟩
          · exact absurd h hne
          · exact hkeep i a b false false hi (hm.obj i _ hq') he hle
        · refine orep_mono ht (hσ i hi) (fun x h => ?_) (hm.obj i q hq')
          show w'.heap[C.σ i]? = _
          rw [hw _ (hlt i q hq' hlq) he]
          exact h
      · cases q with
        | dead => trivial
        | _ => exact absurd rfl hlq
    · exact hkeep i cs mv false false hid hoo rfl (Nat.le_refl _)
    · exact hr
  · intro i j q q2 hq hq2 hl1 hl2 he
    rcases split i q hq with ⟨hi, hne, hq'⟩ | ⟨rfl, rfl⟩ | ⟨rfl, rfl⟩ <;> rcases split j q2 hq2 with ⟨hj, hne2, hq2'⟩ | ⟨rfl, rfl⟩ | ⟨rfl, rfl⟩
    · rw [hσ i hi, hσ j hj] at he; exact hm.inj i j q q2 hq' hq2' hl1 hl2 he
    · rw [hσ i hi, hσ j hid] at he
      rcases hsh i q hq' hl1 he with h | ⟨a, b, rfl, hle⟩
      · exact .inl h
      · right; simp [AObj.twin]
    · rw [hσ i hi, hσn] at he
      have hb := hlt i q hq' hl1
      rcases hnb with h | h
      · rcases hsh i q hq' hl1 (by rw [he, h]) with h | ⟨a, b, rfl, hle⟩
        · exact absurd h hne
        · right; simp [AObj.twin]; omega
      · omega
    · rw [hσ i hid, hσ j hj] at he
      rcases hsh j q2 hq2' hl2 he.symm with h | ⟨a, b, rfl, hle⟩
      · exact .inl h.symm
      · right; simp [AObj.twin]
    · exact .inl rfl
    · right; simp [AObj.twin]
    · rw [hσ j hj, hσn] at he
      have hb := hlt j q2 hq2' hl2
      rcases hnb with h | h
      · rcases hsh j q2 hq2' hl2 (by rw [← he, h]) with h | ⟨a, b, rfl, hle⟩
        · exact absurd h hne2
        · right; simp [AObj.twin]; omega
      · omega
    · right; simp [AObj.twin]
    · exact .inl rfl
  · intro b hb hI
    rcases hown b hb with h | h
    · have := hm.bd b hI; omega
    · exact hm.imm b h hI
  · intro b hb hno
    exact hw b hb fun e => hno ⟨id, o, ho, hlo, e.symm⟩
  · intro b arr e h
    by_cases hb : b = C.σ id
    · subst hb; exact hsz arr e h
    · exact h.same (hw b h.lt hb)
  · intro i _ q hq hmq
    rcases split i q hq with ⟨hi, hne, hq'⟩ | ⟨rfl, rfl⟩ | ⟨rfl, rfl⟩
    · exact ⟨q, hq', hmq, hσ i hi⟩
    · exact ⟨o, ho, hmo.trans hmq, hσ i hid⟩
    · omega
theorem y_appendK (hs : SRep num C s a) {t u e : TypeId} {d : TypeDesc} {x y : Operand} {x' y' : Src} (ht : P.underlying t = some (.slice e)) (hu : P.underlying u = some d) (hd : notIntD d = true) (hk : known P e = true) (h0 : 0 < P.cellsOf e) (hb0 : 0 < P.bytesOf e)
    (hz : zeroOk P e = true) (hx : trSrc num x = some x') (hy : trSrc num y = some y') {r : AV} {s' : St} (h : exAppendK s (P.cellsOf e) (P.bytesOf e) (s.env.ev x') (s.env.ev y') = some (r, s')) :
    Yields num P (.call { callee := .builtin .append, args := #[x, y], argTypes := #[t, u] }) ty pos after a C s r s' := by
  unfold exAppendK at h
  split at h
  case h_2 => exact y_append hs ht hu hd hk h0 hb0 hz hx hy h
  rename_i id sz' l heq
  split at h
  case isFalse => cases h
  rename_i hsz'
  subst hsz'
  obtain ⟨i, dd, hi, _, hsz, hby⟩ := known_some hk
  obtain ⟨z, hzi, hzs⟩ : ∃ z, i.zero = some z ∧ z.cells.size = P.cellsOf e := by
    unfold zeroOk zeroCellsOf at hz
    rw [hi] at hz
    cases hq : i.zero with
    | none => simp [hq] at hz
    | some z => simp [hq] at hz; exact ⟨z, rfl, hz⟩
  have hm := hs.mem
  have hlen := hm.len
  cases hel : elems s.mem (P.cellsOf e) (s.env.ev y') with
  | none => simp [hel] at h
  | some nn =>
    obtain ⟨n, news⟩ := nn
    simp only [hel] at h
    obtain ⟨us, hg⟩ := given_of (P := P) hm (src_rep hs hy) hel
    have hax := src_rep hs hx
    have hexec : ∀ (b : Option Addr) (l c : Nat) (v : Value) (w' : World), a.eval x = .slice b l c → (Builtin.append_ #[t, u] ty #[.slice b l c, a.eval y]).run P C.w = .ok v w' →
        ∀ dst g, (execOp a.eval ⟨dst, .call { callee := .builtin .append, args := #[x, y], argTypes := #[t, u] }, ty, pos, after, g⟩).run P C.w = .ok (.value v) w' := by
      intro b l c v w' hb hr dst g
      simp [execOp, resolve, invoke, builtin, hb, hr]
    obtain ⟨o, cs, mv, ho, hoc, hcl, hn0, hbd, hrs⟩ : ∃ o cs mv, s.mem[id]? = some o ∧ (o = .flat cs mv ∨ o = .fix cs mv true) ∧ cs.length = l * P.cellsOf e ∧ 0 < n ∧ (l + n) * P.bytesOf e ≤ 140737488355328 ∧
        (AV.osl s.mem.length 0 (P.cellsOf e) (l + n) none, ({ s with mem := s.mem.set id (.fix cs mv false) ++ [.fix (cs ++ news) false true] } : St)) = (r, s') := by
      split at h
      · rename_i cs mv ho
        split at h
        · rename_i hc; exact ⟨_, cs, mv, ho, .inl rfl, hc.1, hc.2.1, hc.2.2, Option.some.inj h⟩
        · cases h
      · rename_i cs mv ho
        split at h
        · rename_i hc; exact ⟨_, cs, mv, ho, .inr rfl, hc.1, hc.2.1, hc.2.2, Option.some.inj h⟩
        · cases h
      · cases h
    obtain ⟨rfl, rfl⟩ := Prod.mk.inj hrs
    have hax0 := hax
    rw [heq] at hax
    have hels : elems s.mem (P.cellsOf e) (s.env.ev x') = some (l, cs) := by
      rw [heq]
      rcases hoc with rfl | rfl <;> simp only [elems, ho, cut_whole cs _ hcl, Option.map_some]
    obtain ⟨olds, hg2⟩ := given_of (P := P) hm hax0 hels
    have hoo : ORep num C id (.fix cs mv false) := by
      have := hm.obj id o ho
      rcases hoc with rfl | rfl <;> exact this
    generalize hxv : a.eval x = v at hax hg2
    cases hax with
    | osl _ _ _ _ _ c' ad arr e' hid hl hk' ha hw hss =>
      obtain ⟨arr, fz0, hw, rfl⟩ := hw
      obtain ⟨arr2, e2, hw2, hcs⟩ := hoo
      rw [hw] at hw2
      obtain ⟨rfl, rfl, rfl⟩ : arr = arr2 ∧ e' = e2 ∧ fz0 = (0, 0) := by simpa using hw2
      rcases Nat.lt_or_ge c' (l + n) with hgt | hroom
      ·
        have hr := run_append_grows (P := P) (ty := ty) ht hu hd hi hzi C.w (some ⟨C.σ id, ad, none⟩) l c' n (a.eval y) olds us (hg.len _) (by rw [← hsz]; exact hg.cells _ rfl) (by rw [← hsz]; exact hg2.cells _ rfl) hgt (by rw [← hby]; exact hbd) (by rw [← hby]; exact hb0)
        generalize hrest : Builtin.zeroCells z.cells (grownCap C.w (l + n) c' e - (l + n)) = rest at hr
        have hlt : C.σ id < C.w.heap.size := (Array.getElem?_eq_some_iff.1 hw).1
        have hwk : ∀ b, b < C.w.heap.size → (C.w.drew.alloc (.cells (olds ++ us ++ rest) e)).heap[b]? = C.w.heap[b]? := by
          intro b hb
          rw [alloc_get, if_neg (show ¬ b = C.w.drew.heap.size by show ¬ b = C.w.heap.size; omega)]
          rfl
        have hnew : (C.w.drew.alloc (.cells (olds ++ us ++ rest) e)).heap[C.w.heap.size]? = some (.cells (olds ++ us ++ rest) e (0, 0)) := by
          rw [alloc_get, if_pos (show C.w.heap.size = C.w.drew.heap.size from rfl)]
        have hσn : (C.claim C.w.heap.size (C.w.drew.alloc (.cells (olds ++ us ++ rest) e))).σ C.n = C.w.heap.size := by simp [Cx.claim]
        obtain ⟨hstep, htr⟩ := claimK_step (nb := C.w.heap.size) (w' := C.w.drew.alloc (.cells (olds ++ us ++ rest) e)) hm ho hoc (.inr (Nat.le_refl _)) rfl rfl rfl (by rw [World.size_alloc]; exact Nat.le_succ C.w.heap.size) (fun b hb _ => hwk b hb)
          (fun arr0 e0 h => ⟨arr0, by rw [hwk _ hlt]; exact h, rfl, fun _ _ => rfl⟩) (news := news)
          ⟨olds ++ us ++ rest, e, by rw [hσn]; exact hnew, grown_rep (w1 := C.w.drew) rfl hm hg2.rep (by rw [hg2.count, hg2.size]) hg.rep (by rw [hg.count, hg.size]) e⟩ hs.k
        refine ⟨_, _, fun dst g => .inl (hexec _ l c' _ _ hxv hr dst g), hstep, hs.env.mono htr, ?_, rfl⟩
        have hrs : rest.size = (grownCap C.w (l + n) c' e - (l + n)) * P.cellsOf e := by rw [← hrest, zeroCells_size, hzs]
        have hge := grownCap_ge C.w (l + n) c' e
        rw [hlen]
        conv => arg 4; rw [← hσn]
        refine .osl0 C.n 0 _ _ none _ 0 _ e (by simp [Cx.claim]) (grown_fits (by assumption) hb0) (fun k hk => by cases hk) (.inl rfl) (by rw [hσn]; exact hnew) (.inr ?_)
        rw [Array.size_append, Array.size_append, hg2.size, hg.size, hrs, ← Nat.add_mul, ← Nat.add_mul, Nat.zero_add]
        exact Nat.le_of_eq (by congr 1; omega)
      ·
        have hus : us.toList.length = n * P.cellsOf e := by rw [Array.length_toList, hg.size]
        rcases ha with rfl | h00
        · have hfit : l * P.cellsOf e + us.toList.length ≤ arr.size := by
            rw [hus, ← Nat.add_mul]
            rcases hss with h0 | h0
            · omega
            · have := Nat.mul_le_mul_right (P.cellsOf e) hroom
              omega
          have hone : ∀ u ∈ us.toList, u.oneCell' = true := given_one hg
          have hst := run_storeCells_at P (C.σ id) (l * P.cellsOf e) e' us.toList 0 arr C.w hw (by rw [Nat.add_zero]; exact hfit) hone
          simp only [Nat.add_zero] at hst
          have hr := run_append_rooms (P := P) (ty := ty) ht hu hd hi C.w (some ⟨C.σ id, 0, none⟩) l c' n (a.eval y) us (hg.len _) (by rw [← hsz]; exact hg.cells _ rfl) hroom
            (fun ad' had => by cases had; rw [addr_add, ← hsz, Nat.zero_add]; exact hst) (fun h => by cases h)
          have hsp := splice_size arr (l * P.cellsOf e) us.toList hfit
          generalize hnr : (arr.toList.take (l * P.cellsOf e) ++ us.toList ++ arr.toList.drop (l * P.cellsOf e + us.toList.length)).toArray = narr at hr hsp hst
          have hwk : ∀ b, b < C.w.heap.size → b ≠ C.σ id → (C.w.setRow (C.σ id) narr).heap[b]? = C.w.heap[b]? := by
            intro b _ hb
            rw [setRow_get _ _ _ _ _ hw, if_neg hb]
          have hws : (C.w.setRow (C.σ id) narr).heap[C.σ id]? = some (.cells narr e' (0, 0)) := by
            rw [setRow_get _ _ _ _ _ hw, if_pos rfl]
          have hpre : ∀ j : Nat, j < cs.length → narr[j]? = arr[j]? := by
            intro j hj
            rw [← hnr, splice_get arr _ us.toList hfit, if_neg (by rw [← hcl]; omega)]
          have hσn : (C.claim (C.σ id) (C.w.setRow (C.σ id) narr)).σ C.n = C.σ id := by simp [Cx.claim]
          have hsz3 : ∀ arr0 e0, C.w.heap[C.σ id]? = some (.cells arr0 e0 (0, 0)) → ∃ arr', (C.w.setRow (C.σ id) narr).heap[C.σ id]? = some (.cells arr' e0 (0, 0)) ∧ arr'.size = arr0.size ∧ ∀ j : Nat, j < cs.length → arr'[j]? = arr0[j]? := by
            intro arr0 e0 h0'
            rw [hw] at h0'
            obtain ⟨rfl, rfl⟩ : arr = arr0 ∧ e' = e0 := by simpa using h0'
            exact ⟨_, hws, hsp, hpre⟩
          have hlo : o.live = true := by rcases hoc with rfl | rfl <;> rfl
          have htr0 := claim_tr (nb := C.σ id) hm ho hlo (w' := C.w.setRow (C.σ id) narr) hwk (fun n0 e0 h => h.put hw hws hsp)
          obtain ⟨hstep, htr⟩ := claimK_step (nb := C.σ id) (w' := C.w.setRow (C.σ id) narr) hm ho hoc (.inl rfl) rfl rfl rfl (by rw [size_setRow]; exact Nat.le_refl _) hwk hsz3 (news := news)
            ⟨narr, e', by rw [hσn]; exact hws, fun j x hx => by
              rcases Nat.lt_or_ge j cs.length with hj | hj
              · rw [List.getElem?_append_left hj] at hx
                obtain ⟨u, hu', hr'⟩ := hcs j x hx
                exact ⟨u, by rw [hpre j hj]; exact hu', hr'.mono htr0.imm htr0.keep⟩
              · rw [List.getElem?_append_right hj] at hx
                have hjn : j - cs.length < news.length := (List.getElem?_eq_some_iff.1 hx).1
                obtain ⟨u, hu', hr'⟩ := hg.rep _ x hx
                refine ⟨u, ?_, hr'.mono htr0.imm htr0.keep⟩
                rw [← hnr, splice_get arr _ us.toList hfit, if_pos (by rw [hus, ← hg.count]; omega), Array.getElem?_toList, ← hcl]
                exact hu'⟩ hs.k
          refine ⟨_, _, fun dst g => .inl (hexec _ l c' _ _ hxv hr dst g), hstep, hs.env.mono htr, ?_, rfl⟩
          rw [hlen]
          conv => arg 4; rw [← hσn]
          exact .osl0 C.n 0 _ _ none c' 0 _ e' (by simp [Cx.claim]) (by omega) (fun k hk => by cases hk) (.inl rfl) (by rw [hσn]; exact hws) (by rw [hsp]; exact hss)
        · omega
end
end Go.EX


set_option linter.unusedVariables false
set_option linter.unusedSimpArgs false
namespace Go.EX
section
variable {num : Names} {P : Program}
variable {ty : TypeId} {pos : String} {after : Array Edge} {a : Act} {C : Cx} {s : St}
theorem text_flat {m : Mem} (hm : MRep num C m) {id : Nat} {cs : List IV} (ho : m[id]? = some (.text cs)) : MRep num C (m.set id (.flat cs false)) := by
  have hid : id < m.length := (List.getElem?_eq_some_iff.1 ho).1
  have split : ∀ (i : Nat) p, (m.set id (.flat cs false))[i]? = some p → (i = id ∧ p = .flat cs false) ∨ (i ≠ id ∧ m[i]? = some p) := by
    intro i p hp
    rw [set_get] at hp
    split at hp
    · rename_i h; exact .inl ⟨h.1.symm, (Option.some.inj hp).symm⟩
    · rename_i h; exact .inr ⟨fun e => h ⟨e.symm, by rw [e]; exact hid⟩, hp⟩
  have own : ∀ b, Own C (m.set id (.flat cs false)) b → Own C m b := by
    rintro b ⟨i, p, hp, hl, hb⟩
    rcases split i p hp with ⟨rfl, rfl⟩ | ⟨_, hp'⟩
    · exact ⟨i, _, ho, rfl, hb⟩
    · exact ⟨i, p, hp', hl, hb⟩
  refine ⟨by simpa using hm.len, fun i p hp => ?_, fun i j p q hp hq h1 h2 he => ?_, fun b hb => hm.imm b (own b hb), hm.bd, hm.glo⟩
  · rcases split i p hp with ⟨rfl, rfl⟩ | ⟨_, hp'⟩
    · obtain ⟨arr, e, h1, _, h2⟩ := hm.obj i _ ho
      exact ⟨arr, e, h1, h2⟩
    · exact hm.obj i p hp'
  · rcases split i p hp with ⟨rfl, rfl⟩ | ⟨hi, hp'⟩ <;> rcases split j q hq with ⟨rfl, rfl⟩ | ⟨hj, hq'⟩
    · exact .inl rfl
    · rcases hm.inj _ j _ q ho hq' rfl h2 he with h | h
      · exact .inl h
      · cases q <;> cases h
    · rcases hm.inj i _ p _ hp' ho h1 rfl he with h | h
      · exact .inl h
      · cases p <;> cases h
    · exact hm.inj i j p q hp' hq' h1 h2 he
theorem text_grown {D : Cx} (ht : Tr some C D) {olds us : Array Value} {ol nl : List IV} (ho : ∀ (j : Nat) x, ol[j]? = some x → ∃ u : Value, olds[j]? = some u ∧ IRep C.I C.w x u) (hol : ol.length = olds.size)
    (hn : ∀ (j : Nat) x, nl[j]? = some x → ∃ u : Value, us[j]? = some u ∧ IRep C.I C.w x u) {arr : Array Value} (h1 : ∀ j : Nat, j < olds.size → arr[j]? = olds[j]?) (h2 : ∀ j : Nat, j < us.size → arr[olds.size + j]? = us[j]?) :
    ∀ (j : Nat) x, (ol ++ nl)[j]? = some x → ∃ u : Value, arr[j]? = some u ∧ IRep D.I D.w x u := by
  intro j x hx
  rcases Nat.lt_or_ge j ol.length with h | h
  · rw [List.getElem?_append_left h] at hx
    obtain ⟨u, hu, hr⟩ := ho j x hx
    exact ⟨u, by rw [h1 j (by omega)]; exact hu, hr.mono ht.imm ht.keep⟩
  · rw [List.getElem?_append_right h] at hx
    obtain ⟨u, hu, hr⟩ := hn _ x hx
    have hj := (Array.getElem?_eq_some_iff.1 hu).1
    refine ⟨u, ?_, hr.mono ht.imm ht.keep⟩
    have := h2 (j - ol.length) hj
    rw [← hol] at this
    have e : ol.length + (j - ol.length) = j := by omega
    rw [e] at this
    rw [this]; exact hu
theorem y_appendS (hU : ∀ e, isU8 P e = true → P.cellsOf e = 1 → num.U e) (hs : SRep num C s a) {t u e : TypeId} {d : TypeDesc} {x y : Operand} {x' y' : Src} (ht : P.underlying t = some (.slice e)) (hu : P.underlying u = some d) (hd : notIntD d = true) (hk : known P e = true) (h0 : 0 < P.cellsOf e) (hb0 : 0 < P.bytesOf e)
    (hz : zeroOk P e = true) (hc1 : P.cellsOf e = 1) (hb1 : P.bytesOf e = 1) (hu8 : isU8 P e = true) (hx : trSrc num x = some x') (hy : trSrc num y = some y') {r : AV} {s' : St} (h : exAppendS s (s.env.ev x') (s.env.ev y') = some (r, s')) :
    Yields num P (.call { callee := .builtin .append, args := #[x, y], argTypes := #[t, u] }) ty pos after a C s r s' := by
  obtain ⟨i, dd, hi, _, hsz, hby⟩ := known_some hk
  obtain ⟨z, hzi, hzs⟩ : ∃ z, i.zero = some z ∧ z.cells.size = P.cellsOf e := by
    unfold zeroOk zeroCellsOf at hz
    rw [hi] at hz
    cases hq : i.zero with
    | none => simp [hq] at hz
    | some z => simp [hq] at hz; exact ⟨z, rfl, hz⟩
  have hm := hs.mem
  have hlen := hm.len
  have hue := hU e hu8 hc1
  unfold exAppendS at h
  cases hel : elems s.mem 1 (s.env.ev y') with
  | none => simp [hel] at h
  | some nn =>
    obtain ⟨n, news⟩ := nn
    simp only [hel] at h
    have hax := src_rep hs hx
    split at h
    · rename_i heq
      by_cases hn0 : n = 0
      · rw [if_pos hn0] at h
        cases h
        have h9 : exAppend s (P.cellsOf e) (P.bytesOf e) (s.env.ev x') (s.env.ev y') = some (s.env.ev x', s) := by
          unfold exAppend
          rw [hc1, hel, heq]
          simp [hn0]
        rw [heq] at h9
        exact y_append hs ht hu hd hk h0 hb0 hz hx hy (by rw [heq]; exact h9)
      · rw [if_neg hn0] at h
        obtain ⟨us, hg⟩ := given_of (P := P) hm (src_rep hs hy) hel
        have hexec : ∀ (b : Option Addr) (l c : Nat) (v : Value) (w' : World), a.eval x = .slice b l c → (Builtin.append_ #[t, u] ty #[.slice b l c, a.eval y]).run P C.w = .ok v w' →
            ∀ dst g, (execOp a.eval ⟨dst, .call { callee := .builtin .append, args := #[x, y], argTypes := #[t, u] }, ty, pos, after, g⟩).run P C.w = .ok (.value v) w' := by
          intro b l c v w' hb hr dst g
          simp [execOp, resolve, invoke, builtin, hb, hr]
        have hxv : a.eval x = .slice none 0 0 := by rw [heq] at hax; exact rep_val hax
        split at h
        · rename_i hbd
          simp only [fresh, Option.some.injEq, Prod.mk.injEq] at h
          obtain ⟨rfl, rfl⟩ := h
          have hr := run_append_grows (P := P) (ty := ty) ht hu hd hi hzi C.w none 0 0 n (a.eval y) #[] us (hg.len _) (by rw [← hsz, hc1]; exact hg.cells _ rfl) rfl (by omega) (by rw [← hby, hb1, Nat.zero_add, Nat.mul_one]; exact hbd) (by rw [← hby]; exact hb0)
          generalize hrest : Builtin.zeroCells z.cells (grownCap C.w (0 + n) 0 e - (0 + n)) = rest at hr
          have htr := more_tr (w1 := C.w.drew) hm rfl (.cells (#[] ++ us ++ rest) e (0, 0))
          refine ⟨_, C.more C.w.drew (.cells (#[] ++ us ++ rest) e (0, 0)), fun dst g => .inl (hexec none 0 0 _ _ hxv hr dst g), more_step (w1 := C.w.drew) hm rfl rfl rfl rfl _ _ ?_ hs.k, hs.env.mono htr, ?_, rfl⟩
          · refine ⟨#[] ++ us ++ rest, e, ?_, hue, ?_⟩
            · simp only [Cx.more, if_true]
              rw [alloc_get, if_pos (show C.w.heap.size = C.w.drew.heap.size from rfl)]
            · intro j x hx
              obtain ⟨u, hu, hr'⟩ := hg.rep j x hx
              have hj := (Array.getElem?_eq_some_iff.1 hu).1
              refine ⟨u, ?_, hr'.mono htr.imm htr.keep⟩
              rw [Array.getElem?_append_left (by simp; exact hj)]
              simpa using hu
          · have hge := grownCap_ge C.w (0 + n) 0 e
            rw [hlen]
            rw [Nat.zero_add] at hge ⊢
            refine more_osl (w1 := C.w.drew) rfl _ e (grown_fits (b := 1) (by rw [Nat.mul_one]; assumption) (by omega)) (fun k hk => by cases hk) (.inr ?_)
            have hrs : rest.size = (grownCap C.w (0 + n) 0 e - (0 + n)) * P.cellsOf e := by rw [← hrest, zeroCells_size, hzs]
            rw [Nat.zero_add, hc1] at hrs
            rw [Array.size_append, Array.size_append, hg.size, hrs]
            simp only [List.size_toArray, List.length_nil, Nat.zero_add]
            rw [← Nat.add_mul]
            exact Nat.le_of_eq (by congr 1; omega)
        · cases h
    · rename_i id l heq
      split at h
      · rename_i cs ho
        split at h
        · rename_i hcond
          obtain ⟨hcl, hl0, hbd⟩ := hcond
          simp only [Option.some.injEq, Prod.mk.injEq] at h
          obtain ⟨rfl, rfl⟩ := h
          obtain ⟨us, hg⟩ := given_of (P := P) hm (src_rep hs hy) hel
          have hexec : ∀ (b : Option Addr) (l c : Nat) (v : Value) (w' : World), a.eval x = .slice b l c → (Builtin.append_ #[t, u] ty #[.slice b l c, a.eval y]).run P C.w = .ok v w' →
              ∀ dst g, (execOp a.eval ⟨dst, .call { callee := .builtin .append, args := #[x, y], argTypes := #[t, u] }, ty, pos, after, g⟩).run P C.w = .ok (.value v) w' := by
            intro b l c v w' hb hr dst g
            simp [execOp, resolve, invoke, builtin, hb, hr]
          have hax0 := hax
          rw [heq] at hax0
          have hid : id < s.mem.length := (List.getElem?_eq_some_iff.1 ho).1
          have hol : elems (s.mem.set id (.flat cs false)) 1 (.osl id 0 1 l none) = some (l, cs) := by
            have hq : (s.mem.set id (.flat cs false))[id]? = some (.flat cs false) := by rw [set_get, if_pos ⟨rfl, hid⟩]
            simp only [elems, hq, Nat.mul_one, cut_whole cs l hcl, Option.map_some]
          obtain ⟨olds, hg2⟩ := given_of (P := P) (text_flat hm ho) hax0 hol
          obtain ⟨a2, e2, hw2, hue2, hcells2⟩ := hm.obj id _ ho
          have hlo : (AObj.text cs).live = true := rfl
          have hof : (AObj.text cs).isFix = false := rfl
          rw [heq] at hax
          generalize hxv : a.eval x = v at hax hg2
          cases hax with
          | osl _ _ _ _ _ c' ad arr e' hid' hl hk' ha hw hss =>
            obtain ⟨arr, fz0, hw, rfl⟩ := hw
            rw [hw] at hw2
            obtain ⟨rfl, rfl, rfl⟩ : arr = a2 ∧ e' = e2 ∧ fz0 = (0, 0) := by simpa using hw2
            rcases Nat.lt_or_ge c' (l + n) with hgt | hroom
            ·
              have hr := run_append_grows (P := P) (ty := ty) ht hu hd hi hzi C.w (some ⟨C.σ id, ad, none⟩) l c' n (a.eval y) olds us (hg.len _) (by rw [← hsz, hc1]; exact hg.cells _ rfl) (by rw [← hsz, hc1]; exact hg2.cells _ rfl) hgt (by rw [← hby, hb1, Nat.mul_one]; exact hbd) (by rw [← hby]; exact hb0)
              generalize hrest : Builtin.zeroCells z.cells (grownCap C.w (l + n) c' e - (l + n)) = rest at hr
              have hlt : C.σ id < C.w.heap.size := (Array.getElem?_eq_some_iff.1 hw).1
              have hwk : ∀ b, b < C.w.heap.size → (C.w.drew.alloc (.cells (olds ++ us ++ rest) e)).heap[b]? = C.w.heap[b]? := by
                intro b hb
                rw [alloc_get, if_neg (show ¬ b = C.w.drew.heap.size by show ¬ b = C.w.heap.size; omega)]
                rfl
              have hnew : (C.w.drew.alloc (.cells (olds ++ us ++ rest) e)).heap[C.w.heap.size]? = some (.cells (olds ++ us ++ rest) e (0, 0)) := by
                rw [alloc_get, if_pos (show C.w.heap.size = C.w.drew.heap.size from rfl)]
              have hsz3 : ∀ n9 e9, RowAt C.w (C.σ id) n9 e9 → RowAt (C.w.drew.alloc (.cells (olds ++ us ++ rest) e)) (C.σ id) n9 e9 := fun _ _ h => h.same (hwk _ hlt)
              have htr := claim_tr (nb := C.w.heap.size) hm ho hlo (w' := C.w.drew.alloc (.cells (olds ++ us ++ rest) e)) (fun b hb _ => hwk b hb) hsz3
              refine ⟨_, C.claim C.w.heap.size (C.w.drew.alloc (.cells (olds ++ us ++ rest) e)), fun dst g => .inl (hexec _ l c' _ _ hxv hr dst g), claim_step (w' := C.w.drew.alloc (.cells (olds ++ us ++ rest) e)) hm ho hlo (.inr (Nat.le_refl _)) rfl rfl rfl (by rw [World.size_alloc]; exact Nat.le_succ C.w.heap.size) (fun b hb _ => hwk b hb) hsz3 ?_ hs.k hof, hs.env.mono htr, ?_, rfl⟩
              · refine ⟨olds ++ us ++ rest, e, by simp only [Cx.claim, if_true]; exact hnew, hue, text_grown htr hg2.rep (by rw [hg2.count, hg2.size]) hg.rep (fun j hj => ?_) (fun j hj => ?_)⟩
                · rw [Array.append_assoc, Array.getElem?_append_left hj]
                · rw [Array.append_assoc, Array.getElem?_append_right (by omega), Array.getElem?_append_left (by omega)]
                  congr 1; omega
              · have hrs : rest.size = (grownCap C.w (l + n) c' e - (l + n)) * P.cellsOf e := by rw [← hrest, zeroCells_size, hzs]
                have hge := grownCap_ge C.w (l + n) c' e
                have hσn : (C.claim C.w.heap.size (C.w.drew.alloc (.cells (olds ++ us ++ rest) e))).σ C.n = C.w.heap.size := by simp [Cx.claim]
                rw [hlen]
                conv => arg 4; rw [← hσn]
                refine .osl0 C.n 0 _ _ none _ 0 _ e (by simp [Cx.claim]) (grown_fits (b := 1) (by rw [Nat.mul_one]; assumption) (by omega)) (fun k hk => by cases hk) (.inl rfl) (by rw [hσn]; exact hnew) (.inr ?_)
                rw [Array.size_append, Array.size_append, hg2.size, hg.size, hrs, hc1, ← Nat.add_mul, ← Nat.add_mul, Nat.zero_add]
                exact Nat.le_of_eq (by congr 1; omega)
            ·
              have hus : us.toList.length = n * 1 := by rw [Array.length_toList, hg.size]
              have hc0 : c' ≠ 0 := by omega
              rcases ha with rfl | h00
              · have hfit : l * 1 + us.toList.length ≤ arr.size := by
                  rw [hus, ← Nat.add_mul]
                  rcases hss with h0 | h0
                  · omega
                  · omega
                have hone : ∀ u ∈ us.toList, u.oneCell' = true := given_one hg
                have hst := run_storeCells_at P (C.σ id) (l * 1) e' us.toList 0 arr C.w hw (by rw [Nat.add_zero]; exact hfit) hone
                simp only [Nat.add_zero] at hst
                have hr := run_append_rooms (P := P) (ty := ty) ht hu hd hi C.w (some ⟨C.σ id, 0, none⟩) l c' n (a.eval y) us (hg.len _) (by rw [← hsz, hc1]; exact hg.cells _ rfl) hroom
                  (fun ad' had => by cases had; rw [addr_add, ← hsz, hc1, Nat.zero_add]; exact hst) (fun h => by cases h)
                have hsp := splice_size arr (l * 1) us.toList hfit
                generalize hnr : (arr.toList.take (l * 1) ++ us.toList ++ arr.toList.drop (l * 1 + us.toList.length)).toArray = narr at hr hsp hst
                have hwk : ∀ b, b < C.w.heap.size → b ≠ C.σ id → (C.w.setRow (C.σ id) narr).heap[b]? = C.w.heap[b]? := by
                  intro b _ hb
                  rw [setRow_get _ _ _ _ _ hw, if_neg hb]
                have hws : (C.w.setRow (C.σ id) narr).heap[C.σ id]? = some (.cells narr e' (0, 0)) := by
                  rw [setRow_get _ _ _ _ _ hw, if_pos rfl]
                have hsz3 : ∀ n9 e9, RowAt C.w (C.σ id) n9 e9 → RowAt (C.w.setRow (C.σ id) narr) (C.σ id) n9 e9 := by
                  intro n0 e0 h0'
                  exact h0'.put hw hws hsp
                have htr := claim_tr (nb := C.σ id) hm ho hlo (w' := C.w.setRow (C.σ id) narr) hwk hsz3
                have hσn : (C.claim (C.σ id) (C.w.setRow (C.σ id) narr)).σ C.n = C.σ id := by simp [Cx.claim]
                have holds : ∀ j : Nat, j < olds.size → arr[j]? = olds[j]? := by
                  intro j hj
                  obtain ⟨u, hu⟩ : ∃ u, olds[j]? = some u := ⟨_, Array.getElem?_eq_getElem hj⟩
                  have h3 := hg2.cells C.w rfl
                  simp only [Builtin.firstCells] at h3
                  rw [hu]
                  have hl2 : l * 1 ≤ arr.size := by omega
                  have h4 := run_loadCells (P := P) C.w ⟨C.σ id, 0, none⟩ (l * 1) (fun j => arr.getD j undef) (fun j hj => by
                    rw [addr_add, cell_of_row C.w _ _ arr e' _ hw]
                    have : 0 + j < arr.size := by omega
                    simp [Array.getD, this, show j < arr.size by omega])
                  rw [h4] at h3
                  simp only [Result.ok.injEq] at h3
                  have h5 := h3.1
                  rw [← h5] at hu
                  have hj2 : j < l * 1 := by rw [← hg2.size]; exact hj
                  have hja : j < arr.size := by omega
                  have hj3 : j < l := by omega
                  simp [hj3] at hu
                  simp [Array.getD, hja] at hu
                  rw [Array.getElem?_eq_getElem hja, hu]
                refine ⟨_, C.claim (C.σ id) (C.w.setRow (C.σ id) narr), fun dst g => .inl (hexec _ l c' _ _ hxv hr dst g), claim_step (w' := C.w.setRow (C.σ id) narr) hm ho hlo (.inl rfl) rfl rfl rfl (by rw [size_setRow]; exact Nat.le_refl _) hwk hsz3 ?_ hs.k hof, hs.env.mono htr, ?_, rfl⟩
                · refine ⟨narr, e', by simp only [Cx.claim, if_true]; exact hws, hue2, text_grown htr hg2.rep (by rw [hg2.count, hg2.size]) hg.rep (fun j hj => ?_) (fun j hj => ?_)⟩
                  · rw [← hnr, splice_get arr _ us.toList hfit, if_neg (by rw [← hg2.size]; omega)]
                    exact holds j hj
                  · rw [← hnr, splice_get arr _ us.toList hfit, if_pos (by rw [hg2.size, hus, ← hg.size]; omega), Array.getElem?_toList]
                    congr 1; rw [hg2.size]; omega
                · rw [hlen]
                  conv => arg 4; rw [← hσn]
                  exact .osl0 C.n 0 _ _ none c' 0 _ e' (by simp [Cx.claim]) (by omega) (fun k hk => by cases hk) (.inl rfl) (by rw [hσn]; exact hws) (by rw [hsp]; exact hss)
              · omega
        · cases h
      · cases h
    · cases h
end
end Go.EX


set_option linter.unusedVariables false
set_option linter.unusedSimpArgs false
namespace Go.EX
section
variable {num : Names} {P : Program}
variable {ty : TypeId} {pos : String} {after : Array Edge} {a : Act} {C : Cx} {s : St}
theorem isU8_some {e : TypeId} (h : isU8 P e = true) : P.underlying e = some (.int .u8) := by
  unfold isU8 at h
  split at h
  · assumption
  · cases h
theorem y_idxP (hs : SRep num C s a) {t e : TypeId} {len : Nat} {x i : Operand} {x' i' : Src} (hx : trSrc num x = some x') (hi : trSrc num i = some i') (ht : P.underlying t = some (.array len e)) (hk : known P e = true)
    {n : Int} (hn : intOf (s.env.ev i') = some n) (hb : 0 ≤ n ∧ n < len) {y : AV} (hy : (match s.env.ev x' with | .imm (.ptr row o) => some (AV.imm (.ptr row (o + n.toNat * P.cellsOf e))) | .optr id o => some (.optr id (o + n.toNat * P.cellsOf e)) | _ => none) = some y) :
    Yields num P (.indexAddr t x i) ty pos after a C s y s := by
  obtain ⟨inf, d, hinf, hd, hsz, _⟩ := known_some hk
  obtain ⟨kk, hie, _⟩ := rep_int (src_rep hs hi) hn
  have h1 := src_rep hs hx
  generalize hu : a.eval x = u at h1
  have run : ∀ b o, u = .pointer (some ⟨b, o, none⟩) → ∀ dst g, (execOp a.eval ⟨dst, .indexAddr t x i, ty, pos, after, g⟩).run P C.w = .ok (.value (.pointer (some ⟨b, o + n.toNat * P.cellsOf e, none⟩))) C.w := by
    intro b o hb' dst g
    simp [execOp, hu, hb', hie, Instr.indexAt, asIntOf, run_underlying ht, run_sizeOf' hinf, hb.1, hb.2, addr_add, hsz, Instr.sureAddr]
  split at hy
  · rename_i row o heq
    cases hy
    rw [heq] at h1
    cases h1 with
    | imm _ _ h => cases h with
      | ptr _ _ b o' u' hI hc hu' =>
        refine yields_pure hs (run b (o' + o) rfl) ?_
        rw [Nat.add_assoc]
        exact .imm _ _ (.ptr row _ b o' u' hI hc hu')
  · rename_i id o heq
    cases hy
    rw [heq] at h1
    cases h1 with
    | optr _ _ hid => exact yields_pure hs (run (C.σ id) o rfl) (.optr id _ hid)
  · cases hy
theorem y_minmax (hs : SRep num C s a) {mn : Bool} {x y : Operand} {x' y' : Src} {ats : Array TypeId} (hx : trSrc num x = some x') (hy : trSrc num y = some y') {k j : IntKind} {m n : Int} (h1 : s.env.ev x' = .imm (.val (.int k m))) (h2 : s.env.ev y' = .imm (.val (.int j n))) :
    Yields num P (.call { callee := .builtin (if mn then .min else .max), args := #[x, y], argTypes := ats }) ty pos after a C s (.imm (.val (.int k (if mn then (if n < m then n else m) else (if m < n then n else m))))) s := by
  have hu := src_val hs hx h1
  have hv := src_val hs hy h2
  cases mn with
  | true =>
    refine yields_pure (v := .int k (if n < m then n else m)) hs (fun _ _ => ?_) (.imm _ _ (.val _ rfl))
    simp [execOp, resolve, invoke, builtin, hu, hv, Builtin.min_, Builtin.min2]
  | false =>
    refine yields_pure (v := .int k (if m < n then n else m)) hs (fun _ _ => ?_) (.imm _ _ (.val _ rfl))
    simp [execOp, resolve, invoke, builtin, hu, hv, Builtin.max_, Builtin.max2]
theorem u8s_get : ∀ (cs : List IV) (ns : List Int), u8s cs = some ns → ns.length = cs.length ∧ ∀ (j : Nat) x, cs[j]? = some x → ∃ n, x = .val (.int .u8 n) ∧ ns[j]? = some n
  | [], ns, h => by simp [u8s] at h; subst h; simp
  | c :: r, ns, h => by
    unfold u8s at h
    split at h
    · rename_i he; cases he
    · rename_i n r' he
      cases he
      simp only [Option.map_eq_some_iff] at h
      obtain ⟨ms, h1, rfl⟩ := h
      obtain ⟨h2, h3⟩ := u8s_get r ms h1
      refine ⟨by simp [h2], fun j x hx => ?_⟩
      cases j with
      | zero => simp at hx; exact ⟨n, hx.symm, by simp⟩
      | succ j => simpa using h3 j x (by simpa using hx)
    · cases h
theorem y_strOf (hs : SRep num C s a) {src dst e : TypeId} {x : Operand} {x' : Src} (hx : trSrc num x = some x') (h1 : P.underlying src = some (.slice e)) (h2 : P.underlying dst = some .string) (he : isU8 P e = true) {b : ByteArray} (hb : strOfV s.mem (s.env.ev x') = some b) :
    Yields num P (.convert src dst x) ty pos after a C s (.imm (.val (.string b))) s := by
  have he' := isU8_some he
  have hax := src_rep hs hx
  unfold strOfV at hb
  split at hb
  · cases hb
  rename_i hns
  cases hel : elems s.mem 1 (s.env.ev x') with
  | none => rw [hel] at hb; cases hb
  | some nn =>
    obtain ⟨n, cs⟩ := nn
    simp only [hel, Option.map_eq_some_iff] at hb
    obtain ⟨ns, hu, rfl⟩ := hb
    obtain ⟨us, hg⟩ := given_of (P := P) hs.mem hax hel
    obtain ⟨hnl, hng⟩ := u8s_get cs ns hu
    have hus : us = (ns.map (Value.int .u8)).toArray := by
      apply Array.ext
      · rw [hg.size, ← hg.count, ← hnl]; simp
      · intro j hj1 hj2
        have hjc : j < cs.length := by rw [hg.count, ← hg.size]; exact hj1
        obtain ⟨u, hu1, hu2⟩ := hg.rep j cs[j] (List.getElem?_eq_getElem hjc)
        obtain ⟨m, hm1, hm2⟩ := hng j cs[j] (List.getElem?_eq_getElem hjc)
        rw [hm1] at hu2
        cases hu2
        rw [Array.getElem?_eq_getElem hj1] at hu1
        have h3 : us[j] = Value.int .u8 m := Option.some.inj hu1
        rw [h3]
        have h4 : j < ns.length := by omega
        rw [List.getElem?_eq_getElem h4] at hm2
        simp [Option.some.inj hm2]
    have key : ∀ (ad : Option Addr) (l c : Nat), a.eval x = .slice ad l c → n = l → Yields num P (.convert src dst x) ty pos after a C s (.imm (.val (.string (pushAll ns)))) s := by
      intro ad l c hv hnl'
      subst hnl'
      refine yields_pure (v := .string (pushAll ns)) hs (fun _ _ => ?_) (.imm _ _ (.val _ rfl))
      have hc := hg.cells C.w rfl
      rw [hv] at hc
      cases ad with
      | none =>
        simp only [Builtin.firstCells, Sem.run_pure, Result.ok.injEq, and_true] at hc
        have hz : ns = [] := by
          have := congrArg Array.size hc
          rw [hus] at this
          simp at this
          exact List.eq_nil_of_length_eq_zero this.symm
        subst hz
        simp [execOp, hv, run_convert_bytes_string C.w src dst e none n c h1 he' h2, Conv.bytesToString, pushAll]
      | some ad =>
        simp only [Builtin.firstCells, Nat.mul_one] at hc
        rw [hus] at hc
        have hr := run_bytesToString (P := P) C.w ad n c ns hc
        simp [execOp, hv, run_convert_bytes_string C.w src dst e (some ad) n c h1 he' h2, hr, pushAll]
    generalize hxv : a.eval x = v at hax
    generalize hav : s.env.ev x' = av at hax hel hns
    cases hax with
    | imm z v h =>
      cases h with
      | val v h =>
        unfold elems at hel
        split at hel
        · rename_i heq
          cases heq
          cases hel
          exact key none 0 0 hxv rfl
        · rename_i b heq
          cases heq
          exact absurd rfl (hns b)
        · rename_i heq; cases heq
        · rename_i heq; cases heq
        · cases hel
      | slice row off len cap b o c ad u hI hc hu' hl hk ha =>
        simp only [elems, Option.map_eq_some_iff, Prod.mk.injEq] at hel
        obtain ⟨_, _, rfl, _⟩ := hel
        exact key _ _ _ hxv rfl
      | vac row off ad =>
        simp only [elems, Option.map_eq_some_iff, Prod.mk.injEq] at hel
        obtain ⟨_, _, rfl, _⟩ := hel
        exact key _ _ _ hxv rfl
      | ptr => simp [elems] at hel
    | osl id off sz len cap c ad arr e' hid hl hk ha hw hs' =>
      have hn : n = len := by
        simp only [elems] at hel
        split at hel
        · simp only [Option.map_eq_some_iff, Prod.mk.injEq] at hel; obtain ⟨_, _, rfl, _⟩ := hel; rfl
        · split at hel
          · simp only [Option.map_eq_some_iff, Prod.mk.injEq] at hel; obtain ⟨_, _, rfl, _⟩ := hel; rfl
          · cases hel
        · simp only [Option.map_eq_some_iff, Prod.mk.injEq] at hel; obtain ⟨_, _, rfl, _⟩ := hel; rfl
        · simp only [Option.map_eq_some_iff, Prod.mk.injEq] at hel; obtain ⟨_, _, rfl, _⟩ := hel; rfl
        · cases hel
      exact key _ _ _ hxv hn
    | _ => simp [elems] at hel
theorem y_bytesOf (hs : SRep num C s a) {src dst e : TypeId} {x : Operand} {x' : Src} (hx : trSrc num x = some x') (h1 : P.underlying src = some .string) (h2 : P.underlying dst = some (.slice e)) (he : isU8 P e = true) {b : ByteArray} (hb : s.env.ev x' = .imm (.val (.string b))) :
    Yields num P (.convert src dst x) ty pos after a C s (.imm (.slice (rowOfS b) 0 b.size none)) s := by
  have he' := isU8_some he
  have hu := src_val hs hx hb
  have hm := hs.mem
  have hr := Lib.run_convert_string_bytes (P := P) C.w src dst e b h1 h2 he'
  have hk : ∀ j, j < C.w.heap.size → (Lib.bytesWorld C.w e b).heap[j]? = C.w.heap[j]? := fun j hj => Lib.bytesWorld_at_old C.w e b j hj
  have hsz := Lib.bytesWorld_size C.w e b
  have hos : (Lib.bytesWorld C.w e b).os = C.w.os ∧ (Lib.bytesWorld C.w e b).tape = C.w.tape ∧ (Lib.bytesWorld C.w e b).output = C.w.output := by
    unfold Lib.bytesWorld World.freeze
    split
    · exact ⟨rfl, rfl, rfl⟩
    · exact ⟨rfl, rfl, rfl⟩
  refine ⟨.slice (some ⟨C.w.heap.size, 0, none⟩) b.size (grownCap C.w b.size 0 e), { σ := C.σ, I := fun q => C.I q ∨ q = C.w.heap.size, n := C.n, w := Lib.bytesWorld C.w e b }, fun dst g => .inl ?_, ext_step hm hos.1 hos.2.1 hos.2.2 (by omega) hk (fun _ h => .inl h) (fun q hq => ?_) (fun q hq => ?_) hs.k, hs.env.mono (ext_tr hm hk fun _ h => .inl h), ?_, rfl⟩
  · simp [execOp, hu, hr]
  · rcases hq with h | h
    · exact .inl h
    · exact .inr (by omega)
  · rcases hq with h | h
    · have := hm.bd q h
      show q < (Lib.bytesWorld C.w e b).heap.size
      omega
    · show q < (Lib.bytesWorld C.w e b).heap.size
      omega
  · refine .imm _ _ (.slice (rowOfS b) 0 b.size none C.w.heap.size 0 _ _ (fun j => .int .u8 (b.data.toList.getD j 0).toNat) (.inr rfl) (fun j x hx => ?_) (fun j x hx => ?_) (grownCap_ge _ _ _ _) (fun k hk => by cases hk) (.inl rfl))
    · have hj : j < b.size := by
        have := (List.getElem?_eq_some_iff.1 hx).1
        simpa [rowOfS] using this
      rw [Nat.zero_add]
      exact Lib.bytesWorld_cell C.w e b j hj
    · have hj : j < b.data.toList.length := by
        have := (List.getElem?_eq_some_iff.1 hx).1
        simpa [rowOfS] using this
      simp only [rowOfS, List.getElem?_map, List.getElem?_eq_getElem hj, Option.map_some, Option.some.injEq] at hx
      subst hx
      simp only [List.getD, List.getElem?_eq_getElem hj, Option.getD_some]
      exact .val _ rfl
theorem y_idxV (hs : SRep num C s a) {t e : TypeId} {len : Nat} {x ix : Operand} {x' ix' : Src} (hx : trSrc num x = some x') (hix : trSrc num ix = some ix') (ht : P.underlying t = some (.array len e)) (hk : known P e = true)
    {ii : Int} (hn : intOf (s.env.ev ix') = some ii) (hb0 : 0 ≤ ii ∧ ii < len) {cs : List AV} (hc : s.env.ev x' = .agg cs) {y : AV} (hy : getCells (aggOf P e) cs (ii.toNat * P.cellsOf e) = some y) :
    Yields num P (.index t x ix) ty pos after a C s y s := by
  obtain ⟨i, d, hi, hd, hsz, _⟩ := known_some hk
  obtain ⟨kk, hie, _⟩ := rep_int (src_rep hs hix) hn
  have h1 := src_rep hs hx
  rw [hc] at h1
  generalize hu : a.eval x = u at h1
  generalize ho : ii.toNat * P.cellsOf e = o at hy
  cases h1 with
  | agg _ vs hl hone h =>
    have hrun : (Instr.index t (.agg vs) (.int kk ii)).run P C.w = (part e vs o).run P C.w := by
      simp only [Instr.index, asIntOf, Sem.run_bind, Sem.run_pure, Result.andThen_ok, run_underlying ht, hb0.1, hb0.2, and_self, if_true, run_sizeOf' hi]
      rw [← hsz, ho]
    have hag : (isAgg e).run P C.w = .ok (aggOf P e).isSome C.w := run_isAgg' hd C.w
    cases hagg : aggOf P e with
    | none =>
      rw [hagg] at hag hy
      simp only [getCells] at hy
      have hi' : o < vs.size := by rw [← hl]; exact (List.getElem?_eq_some_iff.1 hy).1
      refine yields_pure (v := vs[o]) hs (fun _ _ => ?_) (h _ y _ hy (by simp [hi']))
      have hp : (part e vs o).run P C.w = .ok vs[o] C.w := by simp [part, hag, hi']
      simp only [execOp, hu, hie, Sem.run_bind, hrun, hp, Result.andThen_ok, Sem.run_pure]
    | some n =>
      have hn : n = P.cellsOf e := by
        unfold aggOf at hagg
        rw [hd] at hagg
        cases d <;> simp at hagg <;> exact hagg.symm
      rw [hagg] at hag hy
      simp only [getCells] at hy
      cases hc' : cut cs o n with
      | none => simp [hc'] at hy
      | some r =>
        simp [hc'] at hy
        subst hy
        have hrl := cut_length hc'
        have hb : n = 0 ∨ o + n ≤ cs.length := by
          rcases Nat.eq_zero_or_pos n with h0 | h0
          · exact .inl h0
          · right
            have h2 := cut_get hc' (n - 1) (by omega)
            rw [List.getElem?_eq_getElem (l := r) (i := n - 1) (by omega)] at h2
            have := (List.getElem?_eq_some_iff.1 h2).1
            omega
        have hex : ∀ j, j < n → (vs.extract o (o + n))[j]? = vs[o + j]? := by
          intro j hj
          rw [Array.getElem?_extract]
          rw [if_pos (by rcases hb with h0 | h0 <;> omega)]
        have hp : (part e vs o).run P C.w = .ok (.agg (vs.extract o (o + n))) C.w := by
          simp only [part, Sem.run_bind, hag, Result.andThen_ok, Option.isSome_some, if_true, run_sizeOf' hi, Sem.run_pure]
          rw [← hsz, ← hn]
        refine yields_pure (v := .agg (vs.extract o (o + n))) hs (fun _ _ => ?_) ?_
        · simp only [execOp, hu, hie, Sem.run_bind, hrun, hp, Result.andThen_ok, Sem.run_pure]
        · have hsize : (vs.extract o (o + n)).size = n := by
            rcases hb with rfl | hb
            · simp; omega
            · simp only [Array.size_extract]; omega
          refine .agg r _ (by rw [hrl, hsize]) ?_ ?_
          · intro j u hj
            have hj' : j < n := by rw [← hsize]; exact (Array.getElem?_eq_some_iff.1 hj).1
            rw [hex j hj'] at hj
            exact hone _ u hj
          · intro j y u hy' hj
            have hj' : j < n := by rw [← hsize]; exact (Array.getElem?_eq_some_iff.1 hj).1
            rw [hex j hj'] at hj
            exact h (o + j) y u (by rw [cut_get hc' j hj']; exact hy') hj
end
end Go.EX

