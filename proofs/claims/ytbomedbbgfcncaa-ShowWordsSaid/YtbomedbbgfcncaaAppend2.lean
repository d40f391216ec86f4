/-
  EX: append as an operation.
-/
import Derived.Test.YtbomedbbgfcncaaAppend
set_option linter.unusedVariables false
set_option linter.unusedSimpArgs false
namespace Go.EX

section
variable {num : FuncId → Nat} {P : Program}
variable {ty : TypeId} {pos : String} {after : Array Edge} {a : Act} {C : Cx} {s : St}

def hide (id : Nat) : Nat → Option Nat := fun j => if j = id then none else some j

theorem map_get {α β : Type} (f : α → β) (l : List α) (i : Nat) (p : β) (h : (l.map f)[i]? = some p) : ∃ q, l[i]? = some q ∧ p = f q := by
  rw [List.getElem?_map] at h
  cases hq : l[i]? with
  | none => simp [hq] at h
  | some q => simp [hq] at h; exact ⟨q, rfl, h.symm⟩

theorem ren_live (f : Nat → Option Nat) (o : AObj) : (o.ren f).live = o.live := by cases o <;> rfl
theorem ren_moved (f : Nat → Option Nat) (o : AObj) : (o.ren f).moved = o.moved := by cases o <;> rfl

/-- An object moves, or is written with all that bears its number let go. -/
theorem move_tr {m : Mem} (hm : MRep num C m) {id : Nat} {o : AObj} (ho : m[id]? = some o) (hlo : o.live = true) {σ' : Nat → Nat} {w' : World} (hσ : ∀ j, j ≠ id → σ' j = C.σ j)
    (hw : ∀ b, b < C.w.heap.size → b ≠ C.σ id → w'.heap[b]? = C.w.heap[b]?) (hsz : ∀ arr e, C.w.heap[C.σ id]? = some (.cells arr e (0, 0)) → ∃ arr', w'.heap[C.σ id]? = some (.cells arr' e (0, 0)) ∧ arr'.size = arr.size) :
    Tr (hide id) C { C with σ := σ', w := w' } := by
  refine ⟨fun _ h => h, fun b hb => hw b (hm.bd b hb) fun e => hm.imm b ⟨id, o, ho, hlo, e.symm⟩ hb, fun i j hi hj => ?_⟩
  unfold hide at hj
  split at hj
  · cases hj
  · rename_i hne
    cases hj
    refine ⟨hi, hσ i hne, fun arr e h => ?_⟩
    by_cases hc : C.σ i = C.σ id
    · rw [hc] at h ⊢; exact hsz arr e h
    · exact ⟨arr, by show w'.heap[C.σ i]? = _; rw [hw _ (Array.getElem?_eq_some_iff.1 h).1 hc]; exact h, rfl⟩

theorem move_step {m : Mem} (hm : MRep num C m) {id : Nat} {o : AObj} (ho : m[id]? = some o) (hlo : o.live = true) {σ' : Nat → Nat} {w' : World} (hσ : ∀ j, j ≠ id → σ' j = C.σ j)
    (hnew : σ' id = C.σ id ∨ C.w.heap.size ≤ σ' id)
    (hos : w'.os = C.w.os) (htp : w'.tape = C.w.tape) (hout : w'.output = C.w.output) (hsize : C.w.heap.size ≤ w'.heap.size)
    (hw : ∀ b, b < C.w.heap.size → b ≠ C.σ id → w'.heap[b]? = C.w.heap[b]?) (hsz : ∀ arr e, C.w.heap[C.σ id]? = some (.cells arr e (0, 0)) → ∃ arr', w'.heap[C.σ id]? = some (.cells arr' e (0, 0)) ∧ arr'.size = arr.size)
    {cs : List IV} (hr : ORep num { C with σ := σ', w := w' } id (.flat cs true)) {k : Nat} (hk : k ≤ m.length) :
    Step num k C m { C with σ := σ', w := w' } ((m.map (AObj.ren (hide id))).set id (.flat cs true)) := by
  have ht := move_tr hm ho hlo hσ hw hsz
  have hid : id < m.length := (List.getElem?_eq_some_iff.1 ho).1
  have split : ∀ (i : Nat) (p : AObj), ((m.map (AObj.ren (hide id))).set id (.flat cs true))[i]? = some p → (i = id ∧ p = .flat cs true) ∨ (i ≠ id ∧ ∃ q, m[i]? = some q ∧ p = q.ren (hide id)) := by
    intro i p hp
    rw [set_get] at hp
    split at hp
    · rename_i hi; exact .inl ⟨hi.1.symm, (Option.some.inj hp).symm⟩
    · rename_i hi
      obtain ⟨q, hq, rfl⟩ := map_get _ _ _ _ hp
      refine .inr ⟨fun e => hi ⟨e.symm, by rw [List.length_map, e]; exact hid⟩, q, hq, rfl⟩
  have hown : ∀ b, Own { C with σ := σ', w := w' } ((m.map (AObj.ren (hide id))).set id (.flat cs true)) b → C.w.heap.size ≤ b ∨ Own C m b := by
    rintro b ⟨i, p, hp, hl, hb⟩
    rcases split i p hp with ⟨rfl, rfl⟩ | ⟨hne, q, hq, rfl⟩
    · rcases hnew with h | h
      · exact .inr ⟨i, o, ho, hlo, by rw [← h]; exact hb⟩
      · exact .inl (by rw [← hb]; exact h)
    · rw [ren_live] at hl
      exact .inr ⟨i, q, hq, hl, by rw [← hσ i hne]; exact hb⟩
  have hlt : ∀ i q, m[i]? = some q → q.live = true → C.σ i < C.w.heap.size := fun i q hq hl => MRep.lt num hm ⟨i, q, hq, hl, rfl⟩
  refine ⟨⟨by simpa using hm.len, ?_, ?_, ?_, fun b hb => Nat.lt_of_lt_of_le (hm.bd b hb) hsize⟩, hos, htp, hout, hsize, ?_, ?_, fun _ h => h, fun _ h => .inl h, hown, ?_, by simpa using hk⟩
  · intro i p hp
    rcases split i p hp with ⟨rfl, rfl⟩ | ⟨hne, q, hq, rfl⟩
    · exact hr
    · by_cases hlq : q.live = true
      · refine orep_tr ht (hσ i hne) (fun x h => ?_) (hm.obj i q hq)
        show w'.heap[C.σ i]? = _
        rw [hw _ (hlt i q hq hlq) fun e => hne (hm.inj i id q o hq ho hlq hlo e)]
        exact h
      · cases q with
        | dead => trivial
        | _ => exact absurd rfl hlq
  · intro i j p q hp hq hlp hlq he
    rcases split i p hp with ⟨rfl, rfl⟩ | ⟨hne, p', hp', rfl⟩ <;> rcases split j q hq with ⟨rfl, rfl⟩ | ⟨hne2, q', hq', rfl⟩
    · rfl
    · rw [ren_live] at hlq
      have he' : σ' i = C.σ j := by rw [← hσ j hne2]; exact he
      rcases hnew with h | h
      · exact hm.inj i j o q' ho hq' hlo hlq (by rw [← h]; exact he')
      · have := hlt j q' hq' hlq; omega
    · rw [ren_live] at hlp
      have he' : C.σ i = σ' j := by rw [← hσ i hne]; exact he
      rcases hnew with h | h
      · exact hm.inj i j p' o hp' ho hlp hlo (by rw [← h]; exact he')
      · have := hlt i p' hp' hlp; omega
    · rw [ren_live] at hlp hlq
      have he' : C.σ i = C.σ j := by rw [← hσ i hne, ← hσ j hne2]; exact he
      exact hm.inj i j p' q' hp' hq' hlp hlq he'
  · intro b hb hI
    rcases hown b hb with h | h
    · have := hm.bd b hI; omega
    · exact hm.imm b h hI
  · intro b hb hno
    exact hw b hb fun e => hno ⟨id, o, ho, hlo, e.symm⟩
  · intro b arr e h
    by_cases hb : b = C.σ id
    · subst hb; exact hsz arr e h
    · exact ⟨arr, by show w'.heap[b]? = _; rw [hw b (Array.getElem?_eq_some_iff.1 h).1 hb]; exact h, rfl⟩
  · intro i _ p hp hmp
    rcases split i p hp with ⟨rfl, rfl⟩ | ⟨hne, q, hq, rfl⟩
    · cases hmp
    · rw [ren_moved] at hmp
      exact ⟨q, hq, hmp, hσ i hne⟩

theorem scrub_eq (s : St) (id : Nat) : s.scrub id = { s with env := s.env.ren (hide id), mem := s.mem.map (AObj.ren (hide id)) } := rfl

/-- A grown row. -/
theorem grown_rep {w1 : World} (hw1 : w1.heap = C.w.heap) {m : Mem} (hm : MRep num C m) {olds us rest : Array Value} {ol nl : List IV} (ho : ∀ (j : Nat) x, ol[j]? = some x → ∃ u, olds[j]? = some u ∧ IRep C.I C.w x u) (hol : ol.length = olds.size)
    (hn : ∀ (j : Nat) x, nl[j]? = some x → ∃ u, us[j]? = some u ∧ IRep C.I C.w x u) (hnl : nl.length = us.size) (e : TypeId) :
    ∀ (j : Nat) x, (ol ++ nl)[j]? = some x → ∃ u, (olds ++ us ++ rest)[j]? = some u ∧ IRep C.I (w1.alloc (.cells (olds ++ us ++ rest) e (0, 0))) x u := by
  have hk : ∀ b, C.I b → (w1.alloc (.cells (olds ++ us ++ rest) e (0, 0))).heap[b]? = C.w.heap[b]? := by
    intro b hb
    rw [alloc_get, hw1, if_neg (by have := hm.bd b hb; omega)]
  intro j x hx
  rcases Nat.lt_or_ge j ol.length with h | h
  · rw [List.getElem?_append_left h] at hx
    obtain ⟨u, hu, hr⟩ := ho j x hx
    refine ⟨u, ?_, hr.mono (fun _ h => h) hk⟩
    rw [Array.append_assoc, Array.getElem?_append_left (by omega)]
    exact hu
  · rw [List.getElem?_append_right h] at hx
    obtain ⟨u, hu, hr⟩ := hn _ x hx
    refine ⟨u, ?_, hr.mono (fun _ h => h) hk⟩
    have hj := (Array.getElem?_eq_some_iff.1 hu).1
    rw [Array.append_assoc, Array.getElem?_append_right (by omega), Array.getElem?_append_left (by omega), ← hol]
    exact hu

theorem flat_le {arr : Array Value} {cs : List IV} (h : ∀ (j : Nat) x, cs[j]? = some x → ∃ u, arr[j]? = some u ∧ IRep C.I C.w x u) : cs.length ≤ arr.size := by
  rcases Nat.eq_zero_or_pos cs.length with h0 | h0
  · omega
  · obtain ⟨u, hu, _⟩ := h (cs.length - 1) cs[cs.length - 1] (by rw [List.getElem?_eq_getElem (by omega)])
    have := (Array.getElem?_eq_some_iff.1 hu).1
    omega

theorem given_one {sz n : Nat} {v : Value} {news : List IV} {us : Array Value} (h : Given num P C sz v n news us) : ∀ u ∈ us.toList, u.oneCell' = true := by
  intro u hu
  obtain ⟨j, hj⟩ := List.getElem?_of_mem hu
  rw [Array.getElem?_toList] at hj
  have hlt : j < news.length := by rw [h.count, ← h.size]; exact (Array.getElem?_eq_some_iff.1 hj).1
  obtain ⟨u', hu', hr⟩ := h.rep j news[j] (List.getElem?_eq_getElem hlt)
  rw [hj] at hu'
  cases hu'
  exact hr.one

theorem y_append (hs : SRep num C s a) {t u e : TypeId} {d : TypeDesc} {x y : Operand} {x' y' : Src} (ht : P.underlying t = some (.slice e)) (hu : P.underlying u = some d) (hd : notIntD d = true) (hk : known P e = true) (h0 : 0 < P.cellsOf e) (hb0 : 0 < P.bytesOf e)
    (hz : zeroOk P e = true) (hx : trSrc num x = some x') (hy : trSrc num y = some y') {r : AV} {s' : St} (h : exAppend s (P.cellsOf e) (P.bytesOf e) (s.env.ev x') (s.env.ev y') = some (r, s')) :
    Yields num P (.call { callee := .builtin .append, args := #[x, y], argTypes := #[t, u] }) ty pos after a C s r s' := by
  obtain ⟨i, dd, hi, _, hsz, hby⟩ := known_some hk
  obtain ⟨z, hzi, hzs⟩ : ∃ z, i.zero = some z ∧ z.cells.size = P.cellsOf e := by
    unfold zeroOk zeroCellsOf at hz
    rw [hi] at hz
    cases hq : i.zero with
    | none => simp [hq] at hz
    | some z => simp [hq] at hz; exact ⟨z, rfl, hz⟩
  have hm := hs.mem
  have hlen := hm.len
  unfold exAppend at h
  cases hel : elems s.mem (P.cellsOf e) (s.env.ev y') with
  | none => simp [hel] at h
  | some nn =>
    obtain ⟨n, news⟩ := nn
    simp only [hel] at h
    obtain ⟨us, hg⟩ := given_of (P := P) hm (src_rep hs hy) hel
    have hax := src_rep hs hx
    have hexec : ∀ (b : Option Addr) (l c : Nat) (v : Value) (w' : World), a.eval x = .slice b l c → (Builtin.append_ #[t, u] ty #[.slice b l c, a.eval y]).run P C.w = .ok v w' →
        ∀ dst g, (execOp a.eval ⟨dst, .call { callee := .builtin .append, args := #[x, y], argTypes := #[t, u] }, ty, pos, after, g⟩).run P C.w = .ok (.value v) w' := by
      intro b l c v w' hb hr dst g
      simp [execOp, resolve, invoke, builtin, hb, hr]
    -- the row grows: a new object
    have grow : ∀ (b : Option Addr) (l c : Nat) (olds : Array Value) (ol : List IV), a.eval x = .slice b l c → (∀ w, w.heap = C.w.heap → (Builtin.firstCells (P.cellsOf e) l (.slice b l c)).run P w = .ok olds w) → ol.length = olds.size → olds.size = l * P.cellsOf e →
        (∀ (j : Nat) x, ol[j]? = some x → ∃ u, olds[j]? = some u ∧ IRep C.I C.w x u) → c < l + n → (l + n) * P.bytesOf e ≤ 140737488355328 →
        Yields num P (.call { callee := .builtin .append, args := #[x, y], argTypes := #[t, u] }) ty pos after a C s (.osl s.mem.length 0 (P.cellsOf e) (l + n) none) { s with mem := s.mem ++ [.flat (ol ++ news) false] } := by
      intro b l c olds ol hb hold hol hos hor hc hbd
      have hr := run_append_grows (P := P) (ty := ty) ht hu hd hi hzi C.w b l c n (a.eval y) olds us (hg.len _) (by rw [← hsz]; exact hg.cells _ rfl) (by rw [← hsz]; exact hold _ rfl) hc (by rw [← hby]; exact hbd) (by rw [← hby]; exact hb0)
      generalize hrest : Builtin.zeroCells z.cells (grownCap C.w (l + n) c e - (l + n)) = rest at hr
      refine ⟨_, C.more C.w.drew (.cells (olds ++ us ++ rest) e (0, 0)), fun dst g => .inl (hexec b l c _ _ hb hr dst g), more_step (w1 := C.w.drew) hm rfl rfl rfl rfl _ _ ?_ hs.k, hs.env.mono (more_tr (w1 := C.w.drew) hm rfl _), ?_, rfl⟩
      · refine ⟨olds ++ us ++ rest, e, ?_, grown_rep (w1 := C.w.drew) rfl hm hor hol hg.rep (by rw [hg.count, hg.size]) e⟩
        simp only [Cx.more, if_true]
        rw [alloc_get, if_pos (show C.w.heap.size = C.w.drew.heap.size from rfl)]
      · rw [hlen]
        refine more_osl (w1 := C.w.drew) rfl _ e (grownCap_ge _ _ _ _) (fun k hk => by cases hk) (.inr ?_)
        have hge := grownCap_ge C.w (l + n) c e
        have hrs : rest.size = (grownCap C.w (l + n) c e - (l + n)) * P.cellsOf e := by rw [← hrest, zeroCells_size, hzs]
        rw [Array.size_append, Array.size_append, hos, hg.size, hrs, ← Nat.add_mul, ← Nat.add_mul]
        exact Nat.le_of_eq (by congr 1; omega)
    have same : ∀ (b : Option Addr) (l c : Nat), a.eval x = .slice b l c → n = 0 → l ≤ c → Yields num P (.call { callee := .builtin .append, args := #[x, y], argTypes := #[t, u] }) ty pos after a C s (s.env.ev x') s := by
      intro b l c hb hn hlc
      subst hn
      have hus : us.toList = [] := List.eq_nil_of_length_eq_zero (by have := hg.size; simp at this; simpa using this)
      have hr := run_append_rooms (P := P) (ty := ty) ht hu hd hi C.w b l c 0 (a.eval y) us (hg.len _) (by rw [← hsz]; exact hg.cells _ rfl) (by omega) (w' := C.w) (fun ad _ => by rw [hus]; rfl) (fun _ => rfl)
      exact yields_pure hs (fun dst g => hexec b l c _ _ hb hr dst g) (by rw [Nat.add_zero, ← hb]; exact hax)
    split at h
    · rename_i heq
      have hxv : a.eval x = .slice none 0 0 := by rw [heq] at hax; exact rep_val hax
      split at h
      · rename_i hn
        cases h
        exact same none 0 0 hxv hn (Nat.le_refl 0)
      · rename_i hn
        split at h
        · rename_i hbd
          simp only [fresh, Option.some.injEq, Prod.mk.injEq] at h
          obtain ⟨rfl, rfl⟩ := h
          have := grow none 0 0 #[] [] hxv (fun w _ => rfl) rfl (by simp) (fun j x hx => by simp at hx) (by omega) (by rw [Nat.zero_add]; exact hbd)
          rw [Nat.zero_add, List.nil_append] at this
          exact this
        · cases h
    · rename_i row off l c heq
      rw [heq] at hax
      generalize hxv : a.eval x = v at hax
      cases hax with | imm _ _ hax => cases hax with
        | slice _ _ _ _ b o c' ad u' hI hc hu' hl hk' ha =>
          have hcc := hk' c rfl
          subst hcc
          split at h
          · rename_i hn
            cases h
            exact same _ l c' hxv hn hl
          · rename_i hn
            split at h
            · cases h
            · rename_i hroom
              cases hcut : cut row off (l * P.cellsOf e) with
              | none => simp [hcut] at h
              | some old =>
                simp only [hcut] at h
                split at h
                · rename_i hbd
                  simp only [fresh, Option.some.injEq, Prod.mk.injEq] at h
                  obtain ⟨rfl, rfl⟩ := h
                  have hrl := cut_length hcut
                  rcases ha with rfl | h00
                  · have hh : ∀ (j : Nat) x, old[j]? = some x → ∃ u'' : Value, C.w.cell? ⟨b, o + off + j, none⟩ = some u'' ∧ IRep C.I C.w x u'' := by
                      intro j x hx
                      have hj : j < l * P.cellsOf e := by rw [← hrl]; exact (List.getElem?_eq_some_iff.1 hx).1
                      have h2 := cut_get hcut j hj
                      rw [hx] at h2
                      exact ⟨u' (off + j), by rw [Nat.add_assoc]; exact hc _ x h2, hu' _ x h2⟩
                    obtain ⟨olds, h1, h2, h3⟩ := read_row (P := P) hh hrl
                    exact grow _ l c' olds old hxv (fun w hw => by simp only [Builtin.firstCells]; exact h1 w hw) (by rw [hrl, h2]) h2 h3 (by omega) hbd
                  · have hl0 : l = 0 := by omega
                    subst hl0
                    have : old = [] := List.eq_nil_of_length_eq_zero (by omega)
                    subst this
                    exact grow _ 0 c' #[] [] hxv (fun w _ => by simp [Builtin.firstCells, loadCells, loadCellsFrom]) rfl (by simp) (fun j x hx => by simp at hx) (by omega) hbd
                · cases h
        | vac _ _ ad =>
          split at h
          · rename_i hn
            cases h
            exact same _ 0 0 hxv hn (Nat.le_refl 0)
          · rename_i hn
            split at h
            · cases h
            · rename_i hroom
              cases hcut : cut row off (0 * P.cellsOf e) with
              | none => rw [hcut] at h; cases h
              | some old =>
                simp only [hcut] at h
                split at h
                · rename_i hbd
                  simp only [fresh, Option.some.injEq, Prod.mk.injEq] at h
                  obtain ⟨rfl, rfl⟩ := h
                  have hrl := cut_length hcut
                  have : old = [] := List.eq_nil_of_length_eq_zero (by omega)
                  subst this
                  exact grow _ 0 0 #[] [] hxv (fun w _ => by simp [Builtin.firstCells, loadCells, loadCellsFrom]) rfl (by simp) (fun j x hx => by simp at hx) (by omega) hbd
                · cases h
    · rename_i id off sz' l c heq
      split at h
      · rename_i hsz'
        subst hsz'
        have hax0 := hax
        rw [heq] at hax
        generalize hxv : a.eval x = v at hax
        cases hax with
        | osl _ _ _ _ _ c' ad arr e' hid hl hk' ha hw hss =>
          have hcc := hk' c rfl
          subst hcc
          split at h
          · rename_i cs mv ho
            obtain ⟨arr2, e2, hw2, hcs⟩ := hm.obj id _ ho
            rw [hw] at hw2
            obtain ⟨rfl, rfl⟩ : arr = arr2 ∧ e' = e2 := by simpa using hw2
            split at h
            · rename_i hroom
              split at h
              · rename_i hfitc
                simp only [Option.some.injEq, Prod.mk.injEq] at h
                obtain ⟨rfl, rfl⟩ := h
                have hcl := flat_le hcs
                rcases ha with rfl | h00
                · have hus : us.toList.length = n * P.cellsOf e := by rw [Array.length_toList, hg.size]
                  have hfit : ad + l * P.cellsOf e + us.toList.length ≤ arr.size := by rw [hus, Nat.add_assoc, ← Nat.add_mul]; omega
                  have hone : ∀ u ∈ us.toList, u.oneCell' = true := given_one hg
                  have hst := run_storeCells_at P (C.σ id) (ad + l * P.cellsOf e) e' us.toList 0 arr C.w hw (by rw [Nat.add_zero]; exact hfit) hone
                  simp only [Nat.add_zero] at hst
                  have hr := run_append_rooms (P := P) (ty := ty) ht hu hd hi C.w (some ⟨C.σ id, ad, none⟩) l c' n (a.eval y) us (hg.len _) (by rw [← hsz]; exact hg.cells _ rfl) hroom
                    (fun ad' had => by cases had; rw [addr_add, ← hsz]; exact hst) (fun h => by cases h)
                  have hsp := splice_size arr (ad + l * P.cellsOf e) us.toList hfit
                  have htr := update_tr hm ho rfl hw hsp
                  refine ⟨_, _, fun dst g => .inl (hexec _ l c' _ _ hxv hr dst g), update_step (o' := .flat (setAll cs (ad + l * P.cellsOf e) news) mv) hm ho rfl hw hsp rfl (fun hmv => hmv) ?_ hs.k, hs.env.mono htr, ?_, rfl⟩
                  · refine ⟨_, e', by show (C.w.setRow _ _).heap[_]? = _; rw [setRow_get _ _ _ _ _ hw, if_pos rfl], fun j x hx => ?_⟩
                    have hnl : news.length = us.toList.length := by rw [hg.count, hus]
                    rw [setAll_get] at hx
                    rw [splice_get arr _ us.toList hfit]
                    split at hx
                    · rename_i hj
                      rw [if_pos (by omega)]
                      obtain ⟨u, hu', hr'⟩ := hg.rep _ x hx
                      exact ⟨u, by rw [Array.getElem?_toList]; exact hu', hr'.mono htr.imm htr.keep⟩
                    · rename_i hj
                      have hj2 : j < cs.length := (List.getElem?_eq_some_iff.1 hx).1
                      rw [if_neg (by omega)]
                      obtain ⟨u, hu', hr'⟩ := hcs j x hx
                      exact ⟨u, hu', hr'.mono htr.imm htr.keep⟩
                  · refine .osl id ad _ _ _ c' ad _ e' hid (by omega) (fun k hk => by cases hk; rfl) (.inl rfl) (by show (C.w.setRow _ _).heap[_]? = _; rw [setRow_get _ _ _ _ _ hw, if_pos rfl]) (by rw [hsp]; exact hss)
                · have hn : n = 0 := by omega
                  have hl0 : l = 0 := by omega
                  have hnews : news = [] := List.eq_nil_of_length_eq_zero (by rw [hg.count, hn]; simp)
                  have hset : s.mem.set id (.flat (setAll cs (off + l * P.cellsOf e) news) mv) = s.mem := by
                    rw [hnews]
                    simp only [setAll]
                    apply List.ext_getElem?
                    intro j
                    rw [set_get]
                    split
                    · rename_i hj; rw [← hj.1, ho]
                    · rfl
                  rw [hset, hn, Nat.add_zero, ← heq]
                  exact same _ l c' hxv hn hl
              · cases h
            · rename_i hroom
              cases hcut : cut cs off (l * P.cellsOf e) with
              | none => simp [hcut] at h
              | some old =>
                simp only [hcut] at h
                split at h
                · rename_i hbd
                  simp only [fresh, Option.some.injEq, Prod.mk.injEq] at h
                  obtain ⟨rfl, rfl⟩ := h
                  obtain ⟨olds, hg2⟩ := given_of (P := P) hm hax0 (sz := P.cellsOf e) (n := l) (news := old) (by rw [heq]; simp only [elems, ho, hcut]; rfl)
                  rw [hxv] at hg2
                  exact grow _ l c' olds old hxv hg2.cells (by rw [hg2.count, hg2.size]) hg2.size hg2.rep (by omega) hbd
                · cases h
          · cases h
      · cases h
    · rename_i id sz' l heq
      split at h
      · rename_i hsz'
        subst hsz'
        have hax0 := hax
        rw [heq] at hax
        generalize hxv : a.eval x = v at hax
        cases hax with
        | osl _ _ _ _ _ c' ad arr e' hid hl hk' ha hw hss =>
          split at h
          · rename_i cs mv ho
            obtain ⟨arr2, e2, hw2, hcs⟩ := hm.obj id _ ho
            rw [hw] at hw2
            obtain ⟨rfl, rfl⟩ : arr = arr2 ∧ e' = e2 := by simpa using hw2
            cases hcut : cut cs 0 (l * P.cellsOf e) with
            | none => simp [hcut] at h
            | some old =>
              simp only [hcut] at h
              split at h
              · rename_i hbd
                simp only [Option.some.injEq, Prod.mk.injEq] at h
                obtain ⟨rfl, rfl⟩ := h
                rw [scrub_eq]
                obtain ⟨olds, hg2⟩ := given_of (P := P) hm hax0 (sz := P.cellsOf e) (n := l) (news := old) (by rw [heq]; simp only [elems, ho, hcut]; rfl)
                rw [hxv] at hg2
                rcases Nat.lt_or_ge c' (l + n) with hgt | hroom
                · -- it grows
                  have hr := run_append_grows (P := P) (ty := ty) ht hu hd hi hzi C.w (some ⟨C.σ id, ad, none⟩) l c' n (a.eval y) olds us (hg.len _) (by rw [← hsz]; exact hg.cells _ rfl) (by rw [← hsz]; exact hg2.cells _ rfl) hgt (by rw [← hby]; exact hbd) (by rw [← hby]; exact hb0)
                  generalize hrest : Builtin.zeroCells z.cells (grownCap C.w (l + n) c' e - (l + n)) = rest at hr
                  have hlt : C.σ id < C.w.heap.size := (Array.getElem?_eq_some_iff.1 hw).1
                  have hwk : ∀ b, b < C.w.heap.size → (C.w.drew.alloc (.cells (olds ++ us ++ rest) e)).heap[b]? = C.w.heap[b]? := by
                    intro b hb
                    rw [alloc_get, if_neg (show ¬ b = C.w.drew.heap.size by show ¬ b = C.w.heap.size; omega)]
                    rfl
                  have hnew : (C.w.drew.alloc (.cells (olds ++ us ++ rest) e)).heap[C.w.heap.size]? = some (.cells (olds ++ us ++ rest) e (0, 0)) := by
                    rw [alloc_get, if_pos (show C.w.heap.size = C.w.drew.heap.size from rfl)]
                  let σ' : Nat → Nat := fun j => if j = id then C.w.heap.size else C.σ j
                  have hσ : ∀ j, j ≠ id → σ' j = C.σ j := fun j hj => by simp [σ', hj]
                  have hσi : σ' id = C.w.heap.size := by simp [σ']
                  have htr := move_tr hm ho rfl (σ' := σ') (w' := C.w.drew.alloc (.cells (olds ++ us ++ rest) e)) hσ (fun b hb _ => hwk b hb) (fun arr e' h => ⟨arr, by rw [hwk _ hlt]; exact h, rfl⟩)
                  refine ⟨_, { C with σ := σ', w := C.w.drew.alloc (.cells (olds ++ us ++ rest) e) }, fun dst g => .inl (hexec _ l c' _ _ hxv hr dst g), move_step hm ho rfl (w' := C.w.drew.alloc (.cells (olds ++ us ++ rest) e)) hσ (.inr (by rw [hσi]; exact Nat.le_refl _)) rfl rfl rfl (by rw [World.size_alloc]; exact Nat.le_succ C.w.heap.size) (fun b hb _ => hwk b hb) (fun arr e' h => ⟨arr, by rw [hwk _ hlt]; exact h, rfl⟩) ?_ hs.k, hs.env.tr htr, ?_, rfl⟩
                  · refine ⟨olds ++ us ++ rest, e, by show (C.w.drew.alloc _).heap[σ' id]? = _; rw [hσi]; exact hnew, grown_rep (w1 := C.w.drew) rfl hm hg2.rep (by rw [hg2.count, hg2.size]) hg.rep (by rw [hg.count, hg.size]) e⟩
                  · have hrs : rest.size = (grownCap C.w (l + n) c' e - (l + n)) * P.cellsOf e := by rw [← hrest, zeroCells_size, hzs]
                    have hge := grownCap_ge C.w (l + n) c' e
                    rw [← hσi]
                    refine .osl id 0 _ _ none _ 0 _ e hid hge (fun k hk => by cases hk) (.inl rfl) (by show (C.w.drew.alloc _).heap[σ' id]? = _; rw [hσi]; exact hnew) (.inr ?_)
                    rw [Array.size_append, Array.size_append, hg2.size, hg.size, hrs, ← Nat.add_mul, ← Nat.add_mul, Nat.zero_add]
                    exact Nat.le_of_eq (by congr 1; omega)
                · -- there is room
                  have hus : us.toList.length = n * P.cellsOf e := by rw [Array.length_toList, hg.size]
                  have holdl := cut_length hcut
                  rcases ha with rfl | h00
                  · have hfit : l * P.cellsOf e + us.toList.length ≤ arr.size := by
                      rw [hus, ← Nat.add_mul]
                      rcases hss with h0 | h0
                      · have : l + n = 0 := by omega
                        rw [this]; simp
                      · have := Nat.mul_le_mul_right (P.cellsOf e) hroom
                        omega
                    have hone : ∀ u ∈ us.toList, u.oneCell' = true := given_one hg
                    have hst := run_storeCells_at P (C.σ id) (l * P.cellsOf e) e' us.toList 0 arr C.w hw (by rw [Nat.add_zero]; exact hfit) hone
                    simp only [Nat.add_zero] at hst
                    have hr := run_append_rooms (P := P) (ty := ty) ht hu hd hi C.w (some ⟨C.σ id, 0, none⟩) l c' n (a.eval y) us (hg.len _) (by rw [← hsz]; exact hg.cells _ rfl) hroom
                      (fun ad' had => by cases had; rw [addr_add, ← hsz, Nat.zero_add]; exact hst) (fun h => by cases h)
                    have hsp := splice_size arr (l * P.cellsOf e) us.toList hfit
                    have hwk : ∀ b, b < C.w.heap.size → b ≠ C.σ id → (C.w.setRow (C.σ id) (arr.toList.take (l * P.cellsOf e) ++ us.toList ++ arr.toList.drop (l * P.cellsOf e + us.toList.length)).toArray).heap[b]? = C.w.heap[b]? := by
                      intro b _ hb
                      rw [setRow_get _ _ _ _ _ hw, if_neg hb]
                    have hws : (C.w.setRow (C.σ id) (arr.toList.take (l * P.cellsOf e) ++ us.toList ++ arr.toList.drop (l * P.cellsOf e + us.toList.length)).toArray).heap[C.σ id]? = some (.cells (arr.toList.take (l * P.cellsOf e) ++ us.toList ++ arr.toList.drop (l * P.cellsOf e + us.toList.length)).toArray e' (0, 0)) := by
                      rw [setRow_get _ _ _ _ _ hw, if_pos rfl]
                    have hsz3 : ∀ arr0 e0, C.w.heap[C.σ id]? = some (.cells arr0 e0 (0, 0)) → ∃ arr', (C.w.setRow (C.σ id) (arr.toList.take (l * P.cellsOf e) ++ us.toList ++ arr.toList.drop (l * P.cellsOf e + us.toList.length)).toArray).heap[C.σ id]? = some (.cells arr' e0 (0, 0)) ∧ arr'.size = arr0.size := by
                      intro arr0 e0 h0'
                      rw [hw] at h0'
                      obtain ⟨rfl, rfl⟩ : arr = arr0 ∧ e' = e0 := by simpa using h0'
                      exact ⟨_, hws, hsp⟩
                    have htr := move_tr hm ho rfl (σ' := C.σ) (fun _ _ => rfl) hwk hsz3
                    refine ⟨_, _, fun dst g => .inl (hexec _ l c' _ _ hxv hr dst g), move_step hm ho rfl (σ' := C.σ) (w' := (C.w.setRow (C.σ id) (arr.toList.take (l * P.cellsOf e) ++ us.toList ++ arr.toList.drop (l * P.cellsOf e + us.toList.length)).toArray)) (fun _ _ => rfl) (.inl rfl) rfl rfl rfl (by rw [size_setRow]; exact Nat.le_refl _) hwk hsz3 ?_ hs.k, hs.env.tr htr, ?_, rfl⟩
                    · refine ⟨_, e', hws, fun j x hx => ?_⟩
                      rw [splice_get arr _ us.toList hfit]
                      rcases Nat.lt_or_ge j old.length with hj | hj
                      · rw [List.getElem?_append_left hj] at hx
                        rw [if_neg (by omega)]
                        have h2 := cut_get hcut j (by omega)
                        rw [hx, Nat.zero_add] at h2
                        obtain ⟨u, hu', hr'⟩ := hcs j x h2
                        exact ⟨u, hu', hr'.mono htr.imm htr.keep⟩
                      · rw [List.getElem?_append_right hj] at hx
                        have hjn : j - old.length < news.length := (List.getElem?_eq_some_iff.1 hx).1
                        rw [if_pos (by rw [hus, ← hg.count]; omega)]
                        obtain ⟨u, hu', hr'⟩ := hg.rep _ x hx
                        exact ⟨u, by rw [Array.getElem?_toList, ← holdl]; exact hu', hr'.mono htr.imm htr.keep⟩
                    · exact .osl id 0 _ _ none c' 0 _ e' hid (by omega) (fun k hk => by cases hk) (.inl rfl) hws (by rw [hsp]; exact hss)
                  · have hn : n = 0 := by omega
                    have hl0 : l = 0 := by omega
                    have hnews : news = [] := List.eq_nil_of_length_eq_zero (by rw [hg.count, hn]; simp)
                    have hold0 : old = [] := List.eq_nil_of_length_eq_zero (by rw [holdl, hl0]; simp)
                    have hus0 : us.toList = [] := List.eq_nil_of_length_eq_zero (by rw [hus, hn]; simp)
                    have hr := run_append_rooms (P := P) (ty := ty) ht hu hd hi C.w (some ⟨C.σ id, ad, none⟩) l c' n (a.eval y) us (hg.len _) (by rw [← hsz]; exact hg.cells _ rfl) hroom (w' := C.w) (fun ad _ => by rw [hus0]; rfl) (fun _ => rfl)
                    have htr := move_tr hm ho rfl (σ' := C.σ) (w' := C.w) (fun _ _ => rfl) (fun _ _ _ => rfl) (fun arr e h => ⟨arr, h, rfl⟩)
                    refine ⟨_, _, fun dst g => .inl (hexec _ l c' _ _ hxv hr dst g), move_step hm ho rfl (σ' := C.σ) (w' := C.w) (fun _ _ => rfl) (.inl rfl) rfl rfl rfl (Nat.le_refl _) (fun _ _ _ => rfl) (fun arr e h => ⟨arr, h, rfl⟩) ?_ hs.k, hs.env.tr htr, ?_, rfl⟩
                    · refine ⟨arr, e', hw, fun j x hx => ?_⟩
                      rw [hold0, hnews] at hx
                      simp at hx
                    · exact .osl id 0 _ _ none c' ad arr e' hid (by omega) (fun k hk => by cases hk) (.inr h00) hw (.inl h00)
              · cases h
          · cases h
      · cases h
    · cases h

end
end Go.EX
