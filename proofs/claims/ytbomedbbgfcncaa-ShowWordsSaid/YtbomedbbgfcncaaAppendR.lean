/-
  EX: append of what is not by content.
-/
import Derived.Test.YtbomedbbgfcncaaAppend2
set_option linter.unusedVariables false
set_option linter.unusedSimpArgs false
namespace Go.EX

section
variable {num : FuncId → Nat} {P : Program}
variable {ty : TypeId} {pos : String} {after : Array Edge} {a : Act} {C : Cx} {s : St}

/-- One object more, where another one lay, or in a new block. -/
def Cx.claim (C : Cx) (nb : Nat) (w' : World) : Cx := { σ := fun i => if i = C.n then nb else C.σ i, I := C.I, n := C.n + 1, w := w' }

theorem claim_tr {m : Mem} (hm : MRep num C m) {id : Nat} {o : AObj} (ho : m[id]? = some o) (hlo : o.live = true) {w' : World} {nb : Nat}
    (hw : ∀ b, b < C.w.heap.size → b ≠ C.σ id → w'.heap[b]? = C.w.heap[b]?) (hsz : ∀ arr e, C.w.heap[C.σ id]? = some (.cells arr e (0, 0)) → ∃ arr', w'.heap[C.σ id]? = some (.cells arr' e (0, 0)) ∧ arr'.size = arr.size) :
    Tr some C (C.claim nb w') := by
  refine ⟨fun _ h => h, fun b hb => hw b (hm.bd b hb) fun e => hm.imm b ⟨id, o, ho, hlo, e.symm⟩ hb, fun i j hi hj => ?_⟩
  cases hj
  have hne : i ≠ C.n := by omega
  refine ⟨Nat.lt_succ_of_lt hi, by simp [Cx.claim, hne], fun arr e h => ?_⟩
  by_cases hc : C.σ i = C.σ id
  · rw [hc] at h ⊢; exact hsz arr e h
  · exact ⟨arr, by show w'.heap[C.σ i]? = _; rw [hw _ (Array.getElem?_eq_some_iff.1 h).1 hc]; exact h, rfl⟩

theorem claim_step {m : Mem} (hm : MRep num C m) {id : Nat} {o : AObj} (ho : m[id]? = some o) (hlo : o.live = true) {w' : World} {nb : Nat} (hnb : nb = C.σ id ∨ (C.w.heap.size ≤ nb))
    (hos : w'.os = C.w.os) (htp : w'.tape = C.w.tape) (hout : w'.output = C.w.output) (hsize : C.w.heap.size ≤ w'.heap.size)
    (hw : ∀ b, b < C.w.heap.size → b ≠ C.σ id → w'.heap[b]? = C.w.heap[b]?) (hsz : ∀ arr e, C.w.heap[C.σ id]? = some (.cells arr e (0, 0)) → ∃ arr', w'.heap[C.σ id]? = some (.cells arr' e (0, 0)) ∧ arr'.size = arr.size)
    {p : AObj} (hr : ORep num (C.claim nb w') C.n p) {k : Nat} (hk : k ≤ m.length) :
    Step num k C m (C.claim nb w') (m.set id .dead ++ [p]) := by
  have ht := claim_tr (nb := nb) hm ho hlo hw hsz
  have hid : id < m.length := (List.getElem?_eq_some_iff.1 ho).1
  have hlen := hm.len
  have hσ : ∀ i, i < m.length → (C.claim nb w').σ i = C.σ i := fun i hi => by simp only [Cx.claim]; rw [if_neg (by omega)]
  have hσn : (C.claim nb w').σ C.n = nb := by simp [Cx.claim]
  have split : ∀ (i : Nat) (q : AObj), (m.set id .dead ++ [p])[i]? = some q → (i < m.length ∧ i ≠ id ∧ m[i]? = some q) ∨ (i = id ∧ q = .dead) ∨ (i = C.n ∧ q = p) := by
    intro i q hq
    rcases Nat.lt_or_ge i m.length with h | h
    · rw [List.getElem?_append_left (by rw [List.length_set]; exact h), set_get] at hq
      split at hq
      · rename_i hi; exact .inr (.inl ⟨hi.1.symm, (Option.some.inj hq).symm⟩)
      · rename_i hi; exact .inl ⟨h, fun e => hi ⟨e.symm, by rw [e]; exact hid⟩, hq⟩
    · rw [List.getElem?_append_right (by rw [List.length_set]; exact h), List.length_set] at hq
      have h0 : i - m.length = 0 := by
        rcases Nat.eq_zero_or_pos (i - m.length) with h0 | h0
        · exact h0
        · rw [List.getElem?_eq_none (by simp; omega)] at hq; cases hq
      rw [h0] at hq
      exact .inr (.inr ⟨by omega, by simpa using hq.symm⟩)
  have hlt : ∀ i q, m[i]? = some q → q.live = true → C.σ i < C.w.heap.size := fun i q hq hl => MRep.lt num hm ⟨i, q, hq, hl, rfl⟩
  have hown : ∀ b, Own (C.claim nb w') (m.set id .dead ++ [p]) b → C.w.heap.size ≤ b ∨ Own C m b := by
    rintro b ⟨i, q, hq, hl, hb⟩
    rcases split i q hq with ⟨hi, hne, hq'⟩ | ⟨rfl, rfl⟩ | ⟨rfl, rfl⟩
    · rw [hσ i hi] at hb; exact .inr ⟨i, q, hq', hl, hb⟩
    · cases hl
    · rw [hσn] at hb
      rcases hnb with h | h
      · exact .inr ⟨id, o, ho, hlo, by rw [← hb, h]⟩
      · exact .inl (by omega)
  refine ⟨⟨by simp [Cx.claim, hlen], ?_, ?_, ?_, fun b hb => Nat.lt_of_lt_of_le (hm.bd b hb) hsize⟩, hos, htp, hout, hsize, ?_, ?_, fun _ h => h, fun _ h => .inl h, hown, ?_, by simp; omega⟩
  · intro i q hq
    rcases split i q hq with ⟨hi, hne, hq'⟩ | ⟨rfl, rfl⟩ | ⟨rfl, rfl⟩
    · by_cases hlq : q.live = true
      · refine orep_mono ht (hσ i hi) (fun x h => ?_) (hm.obj i q hq')
        show w'.heap[C.σ i]? = _
        rw [hw _ (hlt i q hq' hlq) fun e => hne (hm.inj i id q o hq' ho hlq hlo e)]
        exact h
      · cases q with
        | dead => trivial
        | _ => exact absurd rfl hlq
    · trivial
    · exact hr
  · intro i j q q2 hq hq2 hl1 hl2 he
    rcases split i q hq with ⟨hi, hne, hq'⟩ | ⟨rfl, rfl⟩ | ⟨rfl, rfl⟩ <;> rcases split j q2 hq2 with ⟨hj, hne2, hq2'⟩ | ⟨rfl, rfl⟩ | ⟨rfl, rfl⟩
    · rw [hσ i hi, hσ j hj] at he; exact hm.inj i j q q2 hq' hq2' hl1 hl2 he
    · cases hl2
    · rw [hσ i hi, hσn] at he
      have hb := hlt i q hq' hl1
      rcases hnb with h | h
      · exact absurd (hm.inj i id q o hq' ho hl1 hlo (by rw [he, h])) hne
      · omega
    · cases hl1
    · rfl
    · cases hl1
    · rw [hσ j hj, hσn] at he
      have hb := hlt j q2 hq2' hl2
      rcases hnb with h | h
      · exact absurd (hm.inj j id q2 o hq2' ho hl2 hlo (by rw [← he, h])) hne2
      · omega
    · cases hl2
    · rfl
  · intro b hb hI
    rcases hown b hb with h | h
    · have := hm.bd b hI; omega
    · exact hm.imm b h hI
  · intro b hb hno
    exact hw b hb fun e => hno ⟨id, o, ho, hlo, e.symm⟩
  · intro b arr e h
    by_cases hb : b = C.σ id
    · subst hb; exact hsz arr e h
    · exact ⟨arr, by show w'.heap[b]? = _; rw [hw b (Array.getElem?_eq_some_iff.1 h).1 hb]; exact h, rfl⟩
  · intro i _ q hq hmq
    rcases split i q hq with ⟨hi, hne, hq'⟩ | ⟨rfl, rfl⟩ | ⟨rfl, rfl⟩
    · exact ⟨q, hq', hmq, hσ i hi⟩
    · cases hmq
    · omega

/-- What is put behind, in an object. -/
structure GivenR (num : FuncId → Nat) (P : Program) (C : Cx) (sz : Nat) (v : Value) (n : Nat) (news : List AV) (us : Array Value) : Prop where
  len : ∀ w, (Builtin.lenOf v).run P w = .ok n w
  cells : ∀ w, w.heap = C.w.heap → (Builtin.firstCells sz n v).run P w = .ok us w
  size : us.size = n * sz
  count : news.length = n * sz
  rep : ∀ (j : Nat) x, news[j]? = some x → ∃ u : Value, us[j]? = some u ∧ u.oneCell' = true ∧ ARep num C x u

theorem givenR_of {m : Mem} (hm : MRep num C m) {sz : Nat} {x : AV} {v : Value} (hx : ARep num C x v) {n : Nat} {news : List AV} (h : elemsR m sz x = some (n, news)) :
    ∃ us, GivenR num P C sz v n news us := by
  unfold elemsR at h
  split at h
  · rename_i id off sz' len cap
    have key : ∀ (l : List AV), CellsAt num C (C.σ id) 0 l → cut l off (len * sz) = some news → n = len → ∃ us, GivenR num P C sz v n news us := by
      rintro l hl hc rfl
      have hrl := cut_length hc
      have hcell : ∀ (j : Nat) x, news[j]? = some x → ∃ u : Value, C.w.cell? ⟨C.σ id, off + j, none⟩ = some u ∧ u.oneCell' = true ∧ ARep num C x u := by
        intro j x hx
        have hj : j < n * sz := by rw [← hrl]; exact (List.getElem?_eq_some_iff.1 hx).1
        have h2 := cut_get hc j hj
        rw [hx] at h2
        obtain ⟨u, hu, ho, hr⟩ := hl _ _ h2
        exact ⟨u, by rw [Nat.zero_add] at hu; exact hu, ho, hr⟩
      cases hx with
      | osl _ _ _ _ _ c ad arr e hid hl' hk ha hw hs =>
        rcases ha with rfl | rfl
        · let f : Nat → Value := fun j => (C.w.cell? ⟨C.σ id, ad + j, none⟩).getD undef
          refine ⟨((List.range (n * sz)).map f).toArray, ⟨fun w => rfl, fun w hw => ?_, by simp, hrl, fun j x hx => ?_⟩⟩
          · simp only [Builtin.firstCells]
            refine run_loadCells w _ (n * sz) f fun j hj => ?_
            rw [heap_cell hw]
            obtain ⟨u, hu, _⟩ := hcell j news[j] (List.getElem?_eq_getElem (by omega))
            rw [addr_add, hu]
            simp [f, hu]
          · obtain ⟨u, hu, ho, hr⟩ := hcell j x hx
            have hj : j < n * sz := by rw [← hrl]; exact (List.getElem?_eq_some_iff.1 hx).1
            exact ⟨u, by simp [f, hu, hj], ho, hr⟩
        · have hl0 : n = 0 := by omega
          subst hl0
          have hr0 : news = [] := List.eq_nil_of_length_eq_zero (by omega)
          subst hr0
          exact ⟨#[], ⟨fun w => rfl, fun w _ => by simp [Builtin.firstCells, loadCells, loadCellsFrom], by simp, by simp, fun j x hx => by simp at hx⟩⟩
    split at h
    · rename_i cs ho
      cases hc : cut cs off (len * sz) with
      | none => simp [hc] at h
      | some r =>
        simp [hc] at h
        obtain ⟨rfl, rfl⟩ := h
        exact key _ (cellsAt_rich (hm.obj id _ ho)) hc rfl
    · rename_i cs mv ho
      cases hc : cut cs off (len * sz) with
      | none => simp [hc] at h
      | some r =>
        simp [hc] at h
        obtain ⟨rfl, rfl⟩ := h
        exact key _ (cellsAt_flat (hm.obj id _ ho)) (by rw [cut_map, hc]; rfl) rfl
    · cases h
  · cases h

theorem rich_grown {D : Cx} (ht : Tr some C D) {olds us : Array Value} {rest : List Value} {ol nl : List AV} (ho : ∀ (j : Nat) x, ol[j]? = some x → ∃ u : Value, olds[j]? = some u ∧ u.oneCell' = true ∧ ARep num C x u) (hol : ol.length = olds.size)
    (hn : ∀ (j : Nat) x, nl[j]? = some x → ∃ u : Value, us[j]? = some u ∧ u.oneCell' = true ∧ ARep num C x u) {arr : Array Value} (h1 : ∀ j : Nat, j < olds.size → arr[j]? = olds[j]?) (h2 : ∀ j : Nat, j < us.size → arr[olds.size + j]? = us[j]?) :
    ∀ (j : Nat) x, (ol ++ nl)[j]? = some x → ∃ u : Value, arr[j]? = some u ∧ u.oneCell' = true ∧ ARep num D x u := by
  intro j x hx
  rcases Nat.lt_or_ge j ol.length with h | h
  · rw [List.getElem?_append_left h] at hx
    obtain ⟨u, hu, hone, hr⟩ := ho j x hx
    exact ⟨u, by rw [h1 j (by omega)]; exact hu, hone, hr.mono ht⟩
  · rw [List.getElem?_append_right h] at hx
    obtain ⟨u, hu, hone, hr⟩ := hn _ x hx
    have hj := (Array.getElem?_eq_some_iff.1 hu).1
    refine ⟨u, ?_, hone, hr.mono ht⟩
    have := h2 (j - ol.length) hj
    rw [← hol] at this
    have e : ol.length + (j - ol.length) = j := by omega
    rw [e] at this
    rw [this]; exact hu

theorem y_appendR (hs : SRep num C s a) {t u e : TypeId} {d : TypeDesc} {x y : Operand} {x' y' : Src} (ht : P.underlying t = some (.slice e)) (hu : P.underlying u = some d) (hd : notIntD d = true) (hk : known P e = true) (h0 : 0 < P.cellsOf e) (hb0 : 0 < P.bytesOf e)
    (hz : zeroOk P e = true) (hx : trSrc num x = some x') (hy : trSrc num y = some y') {r : AV} {s' : St} (h : exAppendR s (P.cellsOf e) (P.bytesOf e) (s.env.ev x') (s.env.ev y') = some (r, s')) :
    Yields num P (.call { callee := .builtin .append, args := #[x, y], argTypes := #[t, u] }) ty pos after a C s r s' := by
  obtain ⟨i, dd, hi, _, hsz, hby⟩ := known_some hk
  obtain ⟨z, hzi, hzs⟩ : ∃ z, i.zero = some z ∧ z.cells.size = P.cellsOf e := by
    unfold zeroOk zeroCellsOf at hz
    rw [hi] at hz
    cases hq : i.zero with
    | none => simp [hq] at hz
    | some z => simp [hq] at hz; exact ⟨z, rfl, hz⟩
  have hm := hs.mem
  have hlen := hm.len
  unfold exAppendR at h
  cases hel : elemsR s.mem (P.cellsOf e) (s.env.ev y') with
  | none => simp [hel] at h
  | some nn =>
    obtain ⟨n, news⟩ := nn
    simp only [hel] at h
    split at h
    · cases h
    rename_i hn0
    obtain ⟨us, hg⟩ := givenR_of (P := P) hm (src_rep hs hy) hel
    have hax := src_rep hs hx
    have hexec : ∀ (b : Option Addr) (l c : Nat) (v : Value) (w' : World), a.eval x = .slice b l c → (Builtin.append_ #[t, u] ty #[.slice b l c, a.eval y]).run P C.w = .ok v w' →
        ∀ dst g, (execOp a.eval ⟨dst, .call { callee := .builtin .append, args := #[x, y], argTypes := #[t, u] }, ty, pos, after, g⟩).run P C.w = .ok (.value v) w' := by
      intro b l c v w' hb hr dst g
      simp [execOp, resolve, invoke, builtin, hb, hr]
    split at h
    · rename_i heq
      have hxv : a.eval x = .slice none 0 0 := by rw [heq] at hax; exact rep_val hax
      split at h
      · rename_i hbd
        simp only [fresh, Option.some.injEq, Prod.mk.injEq] at h
        obtain ⟨rfl, rfl⟩ := h
        have hr := run_append_grows (P := P) (ty := ty) ht hu hd hi hzi C.w none 0 0 n (a.eval y) #[] us (hg.len _) (by rw [← hsz]; exact hg.cells _ rfl) rfl (by omega) (by rw [← hby, Nat.zero_add]; exact hbd) (by rw [← hby]; exact hb0)
        generalize hrest : Builtin.zeroCells z.cells (grownCap C.w (0 + n) 0 e - (0 + n)) = rest at hr
        have htr := more_tr (w1 := C.w.drew) hm rfl (.cells (#[] ++ us ++ rest) e (0, 0))
        refine ⟨_, C.more C.w.drew (.cells (#[] ++ us ++ rest) e (0, 0)), fun dst g => .inl (hexec none 0 0 _ _ hxv hr dst g), more_step (w1 := C.w.drew) hm rfl rfl rfl rfl _ _ ?_ hs.k, hs.env.mono htr, ?_, rfl⟩
        · refine ⟨#[] ++ us ++ rest, e, ?_, ?_⟩
          · simp only [Cx.more, if_true]
            rw [alloc_get, if_pos (show C.w.heap.size = C.w.drew.heap.size from rfl)]
          · intro j x hx
            obtain ⟨u, hu, hone, hr'⟩ := hg.rep j x hx
            have hj := (Array.getElem?_eq_some_iff.1 hu).1
            refine ⟨u, ?_, hone, hr'.mono htr⟩
            rw [Array.getElem?_append_left (by simp; exact hj)]
            simpa using hu
        · have hge := grownCap_ge C.w (0 + n) 0 e
          rw [hlen]
          rw [Nat.zero_add] at hge ⊢
          refine more_osl (w1 := C.w.drew) rfl _ e hge (fun k hk => by cases hk) (.inr ?_)
          have hrs : rest.size = (grownCap C.w (0 + n) 0 e - (0 + n)) * P.cellsOf e := by rw [← hrest, zeroCells_size, hzs]
          rw [Nat.zero_add] at hrs
          rw [Array.size_append, Array.size_append, hg.size, hrs]
          simp only [List.size_toArray, List.length_nil, Nat.zero_add]
          rw [← Nat.add_mul]
          exact Nat.le_of_eq (by congr 1; omega)
      · cases h
    · rename_i id sz' l heq
      split at h
      · rename_i hsz'
        subst hsz'
        cases hol : elemsR s.mem (P.cellsOf e) (.osl id 0 (P.cellsOf e) l none) with
        | none => simp [hol] at h
        | some pp =>
          obtain ⟨l', old⟩ := pp
          simp only [hol] at h
          split at h
          · rename_i hbd
            simp only [Option.some.injEq, Prod.mk.injEq] at h
            obtain ⟨rfl, rfl⟩ := h
            have hax0 := hax
            rw [heq] at hax0
            have hll : l' = l := by
              unfold elemsR at hol
              dsimp only at hol
              split at hol
              · simp only [Option.map_eq_some_iff] at hol; obtain ⟨_, _, h⟩ := hol; cases h; rfl
              · simp only [Option.map_eq_some_iff] at hol; obtain ⟨_, _, h⟩ := hol; cases h; rfl
              · cases hol
            subst hll
            obtain ⟨olds, hg2⟩ := givenR_of (P := P) hm hax0 hol
            obtain ⟨o, ho, hlo⟩ : ∃ o, s.mem[id]? = some o ∧ o.live = true := by
              unfold elemsR at hol
              dsimp only at hol
              split at hol
              · rename_i ho; exact ⟨_, ho, rfl⟩
              · rename_i ho; exact ⟨_, ho, rfl⟩
              · cases hol
            rw [heq] at hax
            generalize hxv : a.eval x = v at hax hg2
            cases hax with
            | osl _ _ _ _ _ c' ad arr e' hid hl hk' ha hw hss =>
              rcases Nat.lt_or_ge c' (l' + n) with hgt | hroom
              · -- it grows
                have hr := run_append_grows (P := P) (ty := ty) ht hu hd hi hzi C.w (some ⟨C.σ id, ad, none⟩) l' c' n (a.eval y) olds us (hg.len _) (by rw [← hsz]; exact hg.cells _ rfl) (by rw [← hsz]; exact hg2.cells _ rfl) hgt (by rw [← hby]; exact hbd) (by rw [← hby]; exact hb0)
                generalize hrest : Builtin.zeroCells z.cells (grownCap C.w (l' + n) c' e - (l' + n)) = rest at hr
                have hlt : C.σ id < C.w.heap.size := (Array.getElem?_eq_some_iff.1 hw).1
                have hwk : ∀ b, b < C.w.heap.size → (C.w.drew.alloc (.cells (olds ++ us ++ rest) e)).heap[b]? = C.w.heap[b]? := by
                  intro b hb
                  rw [alloc_get, if_neg (show ¬ b = C.w.drew.heap.size by show ¬ b = C.w.heap.size; omega)]
                  rfl
                have hnew : (C.w.drew.alloc (.cells (olds ++ us ++ rest) e)).heap[C.w.heap.size]? = some (.cells (olds ++ us ++ rest) e (0, 0)) := by
                  rw [alloc_get, if_pos (show C.w.heap.size = C.w.drew.heap.size from rfl)]
                have hsz3 : ∀ arr0 e0, C.w.heap[C.σ id]? = some (.cells arr0 e0 (0, 0)) → ∃ arr', (C.w.drew.alloc (.cells (olds ++ us ++ rest) e)).heap[C.σ id]? = some (.cells arr' e0 (0, 0)) ∧ arr'.size = arr0.size := fun arr0 e0 h => ⟨arr0, by rw [hwk _ hlt]; exact h, rfl⟩
                have htr := claim_tr (nb := C.w.heap.size) hm ho hlo (w' := C.w.drew.alloc (.cells (olds ++ us ++ rest) e)) (fun b hb _ => hwk b hb) hsz3
                refine ⟨_, C.claim C.w.heap.size (C.w.drew.alloc (.cells (olds ++ us ++ rest) e)), fun dst g => .inl (hexec _ l' c' _ _ hxv hr dst g), claim_step (w' := C.w.drew.alloc (.cells (olds ++ us ++ rest) e)) hm ho hlo (.inr (Nat.le_refl _)) rfl rfl rfl (by rw [World.size_alloc]; exact Nat.le_succ C.w.heap.size) (fun b hb _ => hwk b hb) hsz3 ?_ hs.k, hs.env.mono htr, ?_, rfl⟩
                · refine ⟨olds ++ us ++ rest, e, by simp only [Cx.claim, if_true]; exact hnew, rich_grown htr (rest := []) hg2.rep (by rw [hg2.count, hg2.size]) hg.rep (fun j hj => ?_) (fun j hj => ?_)⟩
                  · rw [Array.append_assoc, Array.getElem?_append_left hj]
                  · rw [Array.append_assoc, Array.getElem?_append_right (by omega), Array.getElem?_append_left (by omega)]
                    congr 1; omega
                · have hrs : rest.size = (grownCap C.w (l' + n) c' e - (l' + n)) * P.cellsOf e := by rw [← hrest, zeroCells_size, hzs]
                  have hge := grownCap_ge C.w (l' + n) c' e
                  have hσn : (C.claim C.w.heap.size (C.w.drew.alloc (.cells (olds ++ us ++ rest) e))).σ C.n = C.w.heap.size := by simp [Cx.claim]
                  rw [hlen]
                  conv => arg 4; rw [← hσn]
                  refine .osl C.n 0 _ _ none _ 0 _ e (by simp [Cx.claim]) hge (fun k hk => by cases hk) (.inl rfl) (by rw [hσn]; exact hnew) (.inr ?_)
                  rw [Array.size_append, Array.size_append, hg2.size, hg.size, hrs, ← Nat.add_mul, ← Nat.add_mul, Nat.zero_add]
                  exact Nat.le_of_eq (by congr 1; omega)
              · -- there is room
                have hus : us.toList.length = n * P.cellsOf e := by rw [Array.length_toList, hg.size]
                have hc0 : c' ≠ 0 := by omega
                rcases ha with rfl | h00
                · have hfit : l' * P.cellsOf e + us.toList.length ≤ arr.size := by
                    rw [hus, ← Nat.add_mul]
                    rcases hss with h0 | h0
                    · omega
                    · have := Nat.mul_le_mul_right (P.cellsOf e) hroom
                      omega
                  have hone : ∀ u ∈ us.toList, u.oneCell' = true := by
                    intro u hu
                    obtain ⟨j, hj⟩ := List.getElem?_of_mem hu
                    rw [Array.getElem?_toList] at hj
                    have hlt : j < news.length := by rw [hg.count, ← hg.size]; exact (Array.getElem?_eq_some_iff.1 hj).1
                    obtain ⟨u', hu', h1, _⟩ := hg.rep j news[j] (List.getElem?_eq_getElem hlt)
                    rw [hj] at hu'
                    cases hu'
                    exact h1
                  have hst := run_storeCells_at P (C.σ id) (l' * P.cellsOf e) e' us.toList 0 arr C.w hw (by rw [Nat.add_zero]; exact hfit) hone
                  simp only [Nat.add_zero] at hst
                  have hr := run_append_rooms (P := P) (ty := ty) ht hu hd hi C.w (some ⟨C.σ id, 0, none⟩) l' c' n (a.eval y) us (hg.len _) (by rw [← hsz]; exact hg.cells _ rfl) hroom
                    (fun ad' had => by cases had; rw [addr_add, ← hsz, Nat.zero_add]; exact hst) (fun h => by cases h)
                  have hsp := splice_size arr (l' * P.cellsOf e) us.toList hfit
                  generalize hnr : (arr.toList.take (l' * P.cellsOf e) ++ us.toList ++ arr.toList.drop (l' * P.cellsOf e + us.toList.length)).toArray = narr at hr hsp hst
                  have hwk : ∀ b, b < C.w.heap.size → b ≠ C.σ id → (C.w.setRow (C.σ id) narr).heap[b]? = C.w.heap[b]? := by
                    intro b _ hb
                    rw [setRow_get _ _ _ _ _ hw, if_neg hb]
                  have hws : (C.w.setRow (C.σ id) narr).heap[C.σ id]? = some (.cells narr e' (0, 0)) := by
                    rw [setRow_get _ _ _ _ _ hw, if_pos rfl]
                  have hsz3 : ∀ arr0 e0, C.w.heap[C.σ id]? = some (.cells arr0 e0 (0, 0)) → ∃ arr', (C.w.setRow (C.σ id) narr).heap[C.σ id]? = some (.cells arr' e0 (0, 0)) ∧ arr'.size = arr0.size := by
                    intro arr0 e0 h0'
                    rw [hw] at h0'
                    obtain ⟨rfl, rfl⟩ : arr = arr0 ∧ e' = e0 := by simpa using h0'
                    exact ⟨_, hws, hsp⟩
                  have htr := claim_tr (nb := C.σ id) hm ho hlo (w' := C.w.setRow (C.σ id) narr) hwk hsz3
                  have hσn : (C.claim (C.σ id) (C.w.setRow (C.σ id) narr)).σ C.n = C.σ id := by simp [Cx.claim]
                  have holds : ∀ j : Nat, j < olds.size → arr[j]? = olds[j]? := by
                    intro j hj
                    obtain ⟨u, hu⟩ : ∃ u, olds[j]? = some u := ⟨_, Array.getElem?_eq_getElem hj⟩
                    have h3 := hg2.cells C.w rfl
                    simp only [Builtin.firstCells] at h3
                    rw [hu]
                    have hl2 : l' * P.cellsOf e ≤ arr.size := by omega
                    have h4 := run_loadCells (P := P) C.w ⟨C.σ id, 0, none⟩ (l' * P.cellsOf e) (fun j => arr.getD j undef) (fun j hj => by
                      rw [addr_add, cell_of_row C.w _ _ arr e' _ hw]
                      have : 0 + j < arr.size := by omega
                      simp [Array.getD, this, show j < arr.size by omega])
                    rw [h4] at h3
                    simp only [Result.ok.injEq] at h3
                    have h5 := h3.1
                    rw [← h5] at hu
                    have hj2 : j < l' * P.cellsOf e := by rw [← hg2.size]; exact hj
                    simp [hj2] at hu
                    have hja : j < arr.size := by omega
                    simp [Array.getD, hja] at hu
                    rw [Array.getElem?_eq_getElem hja, hu]
                  refine ⟨_, C.claim (C.σ id) (C.w.setRow (C.σ id) narr), fun dst g => .inl (hexec _ l' c' _ _ hxv hr dst g), claim_step (w' := C.w.setRow (C.σ id) narr) hm ho hlo (.inl rfl) rfl rfl rfl (by rw [size_setRow]; exact Nat.le_refl _) hwk hsz3 ?_ hs.k, hs.env.mono htr, ?_, rfl⟩
                  · refine ⟨narr, e', by simp only [Cx.claim, if_true]; exact hws, rich_grown htr (rest := []) hg2.rep (by rw [hg2.count, hg2.size]) hg.rep (fun j hj => ?_) (fun j hj => ?_)⟩
                    · rw [← hnr, splice_get arr _ us.toList hfit, if_neg (by rw [← hg2.size]; omega)]
                      exact holds j hj
                    · rw [← hnr, splice_get arr _ us.toList hfit, if_pos (by rw [hg2.size, hus, ← hg.size]; omega), Array.getElem?_toList]
                      congr 1; rw [hg2.size]; omega
                  · rw [hlen]
                    conv => arg 4; rw [← hσn]
                    exact .osl C.n 0 _ _ none c' 0 _ e' (by simp [Cx.claim]) (by omega) (fun k hk => by cases hk) (.inl rfl) (by rw [hσn]; exact hws) (by rw [hsp]; exact hss)
                · omega
          · cases h
      · cases h
    · cases h

theorem y_appendX (hs : SRep num C s a) {t u e : TypeId} {d : TypeDesc} {x y : Operand} {x' y' : Src} (ht : P.underlying t = some (.slice e)) (hu : P.underlying u = some d) (hd : notIntD d = true) (hk : known P e = true) (h0 : 0 < P.cellsOf e) (hb0 : 0 < P.bytesOf e)
    (hz : zeroOk P e = true) (hx : trSrc num x = some x') (hy : trSrc num y = some y') {r : AV} {s' : St} (h : exAppendX s (P.cellsOf e) (P.bytesOf e) (s.env.ev x') (s.env.ev y') = some (r, s')) :
    Yields num P (.call { callee := .builtin .append, args := #[x, y], argTypes := #[t, u] }) ty pos after a C s r s' := by
  unfold exAppendX at h
  split at h
  · rename_i q hq
    cases h
    exact y_append hs ht hu hd hk h0 hb0 hz hx hy hq
  · exact y_appendR hs ht hu hd hk h0 hb0 hz hx hy h

end
end Go.EX
