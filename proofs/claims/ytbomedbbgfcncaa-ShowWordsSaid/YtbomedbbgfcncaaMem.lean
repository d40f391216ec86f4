/-
  EX: memory: reading, an object written, an object made, an object that moves.
-/
import Derived.Test.YtbomedbbgfcncaaRep
import Derived.Laws.AppendOwn
set_option linter.unusedVariables false
set_option linter.unusedSimpArgs false
namespace Go.EX

section
variable {num : FuncId → Nat}

/-- From ⟨b, o⟩ on lie cells that stand for l. -/
def CellsAt (num : FuncId → Nat) (C : Cx) (b o : Nat) (l : List AV) : Prop := ∀ (j : Nat) x, l[j]? = some x → ∃ u : Value, C.w.cell? ⟨b, o + j, none⟩ = some u ∧ u.oneCell' = true ∧ ARep num C x u

theorem cut_length {α : Type} {l c : List α} {o n : Nat} (h : cut l o n = some c) : c.length = n := by
  unfold cut at h
  dsimp only at h
  split at h
  · obtain rfl := Option.some.inj h; assumption
  · cases h

theorem cut_get {α : Type} {l c : List α} {o n : Nat} (h : cut l o n = some c) (j : Nat) (hj : j < n) : l[o + j]? = c[j]? := by
  unfold cut at h
  dsimp only at h
  split at h
  · obtain rfl := Option.some.inj h
    rw [List.getElem?_take_of_lt hj, List.getElem?_drop]
  · cases h

theorem cut_map {α β : Type} (f : α → β) (l : List α) (o n : Nat) : cut (l.map f) o n = (cut l o n).map (List.map f) := by
  unfold cut
  simp only [← List.map_drop, ← List.map_take, List.length_map]
  split <;> simp

theorem getCellsI_eq (agg : Option Nat) (l : List IV) (off : Nat) : getCellsI agg l off = getCells agg (l.map .imm) off := by
  cases agg with
  | none => simp [getCellsI, getCells]
  | some n => simp only [getCellsI, getCells, cut_map, Option.map_map]; rfl

theorem cellsAt_row {C : Cx} {row : List IV} {b o : Nat} {u : Nat → Value} (hc : ∀ (j : Nat) (x : IV), row[j]? = some x → C.w.cell? ⟨b, o + j, none⟩ = some (u j)) (hu : ∀ (j : Nat) (x : IV), row[j]? = some x → IRep C.I C.w x (u j)) :
    CellsAt num C b o (row.map .imm) := by
  intro j x hx
  rw [List.getElem?_map] at hx
  cases hr : row[j]? with
  | none => simp [hr] at hx
  | some y => simp [hr] at hx; subst hx; exact ⟨u j, hc j y hr, (hu j y hr).one, .imm y _ (hu j y hr)⟩

theorem cellsAt_flat {C : Cx} {cs : List IV} {id : Nat} {mv : Bool} (h : ORep num C id (.flat cs mv)) : CellsAt num C (C.σ id) 0 (cs.map .imm) := by
  obtain ⟨arr, e, h1, h2⟩ := h
  intro j x hx
  rw [List.getElem?_map] at hx
  cases hr : cs[j]? with
  | none => simp [hr] at hx
  | some y =>
    simp [hr] at hx; subst hx
    obtain ⟨u, hu, hr'⟩ := h2 j y hr
    exact ⟨u, by rw [cell_of_row C.w _ _ arr e _ h1]; simpa using hu, hr'.one, .imm y _ hr'⟩

theorem cellsAt_rich {C : Cx} {cs : List AV} {id : Nat} (h : ORep num C id (.rich cs)) : CellsAt num C (C.σ id) 0 cs := by
  obtain ⟨arr, e, h1, h2⟩ := h
  intro j x hx
  obtain ⟨u, hu, ho, hr'⟩ := h2 j x hx
  exact ⟨u, by rw [cell_of_row C.w _ _ arr e _ h1]; simpa using hu, ho, hr'⟩

/-- A pointer, and what lies behind it. -/
theorem ptr_cells {C : Cx} {m : Mem} (hm : MRep num C m) {p : AV} {v : Value} (hp : ARep num C p v) {agg : Option Nat} {x : AV} (hx : loadAt m agg p = some x) :
    ∃ b o off l, v = .pointer (some ⟨b, o + off, none⟩) ∧ CellsAt num C b o l ∧ getCells agg l off = some x := by
  unfold loadAt at hx
  split at hx
  · rename_i row off
    cases hp with
    | imm _ _ h =>
      cases h with
      | ptr _ _ b o u hb hc hu => exact ⟨b, o, off, _, rfl, cellsAt_row hc hu, by rw [← getCellsI_eq]; exact hx⟩
  · rename_i id off
    cases hp with
    | optr _ _ hid =>
      split at hx
      · rename_i cs mv ho
        exact ⟨C.σ id, 0, off, _, by rw [Nat.zero_add], cellsAt_flat (hm.obj id _ ho), by rw [← getCellsI_eq]; exact hx⟩
      · rename_i cs ho
        exact ⟨C.σ id, 0, off, _, by rw [Nat.zero_add], cellsAt_rich (hm.obj id _ ho), hx⟩
      · cases hx
  · cases hx

/-- So many cells, read. -/
theorem load_cells {P : Program} {C : Cx} {b o off n : Nat} {l r : List AV} (h : CellsAt num C b o l) (hr : cut l off n = some r) :
    ∃ vs : Array Value, (loadCells ⟨b, o + off, none⟩ n).run P C.w = .ok vs C.w ∧ vs.size = n ∧ (∀ (j : Nat) u, vs[j]? = some u → u.oneCell' = true) ∧ ∀ (j : Nat) x u, r[j]? = some x → vs[j]? = some u → ARep num C x u := by
  have hlen := cut_length hr
  have hx : ∀ j, j < n → ∃ u : Value, C.w.cell? ⟨b, o + off + j, none⟩ = some u ∧ u.oneCell' = true ∧ ∀ x, r[j]? = some x → ARep num C x u := by
    intro j hj
    have h1 := cut_get hr j hj
    have hjr : j < r.length := by omega
    rw [List.getElem?_eq_getElem hjr] at h1
    obtain ⟨u, hu, h2, h3⟩ := h _ _ h1
    refine ⟨u, by rw [Nat.add_assoc]; exact hu, h2, fun x hx => ?_⟩
    rw [List.getElem?_eq_getElem hjr] at hx
    obtain rfl := Option.some.inj hx
    exact h3
  let f : Nat → Value := fun j => (C.w.cell? ⟨b, o + off + j, none⟩).getD undef
  have hf : ∀ j, j < n → C.w.cell? ((⟨b, o + off, none⟩ : Addr).add j) = some (f j) := by
    intro j hj
    obtain ⟨u, hu, _⟩ := hx j hj
    rw [addr_add, hu]
    simp [f, hu]
  refine ⟨((List.range n).map f).toArray, run_loadCells C.w _ n f hf, by simp, ?_, ?_⟩
  · intro j u hu
    simp only [List.getElem?_toArray, List.getElem?_map] at hu
    by_cases hj : j < n
    · rw [List.getElem?_range hj] at hu
      obtain ⟨u', hu', h2, _⟩ := hx j hj
      simp [f, hu'] at hu
      subst hu
      exact h2
    · rw [List.getElem?_eq_none (by simp; omega)] at hu; simp at hu
  · intro j x u hxr hu
    simp only [List.getElem?_toArray, List.getElem?_map] at hu
    have hj : j < n := by
      have := (List.getElem?_eq_some_iff.1 hxr).1
      omega
    rw [List.getElem?_range hj] at hu
    obtain ⟨u', hu', _, h3⟩ := hx j hj
    simp [f, hu'] at hu
    subst hu
    exact h3 x hxr

/-! ### an object written -/

/-- A block of the world is another one. -/
theorem setRow_get (w : World) (g : Nat) (arr cs : Array Value) (e : TypeId) (h : w.heap[g]? = some (.cells arr e (0, 0))) (k : Nat) :
    (w.setRow g cs).heap[k]? = if k = g then some (.cells cs e (0, 0)) else w.heap[k]? := by
  by_cases hk : k = g
  · subst hk; rw [if_pos rfl]; exact setRow_heap w k arr cs e _ h
  · rw [if_neg hk]; exact setRow_other w g k cs hk

theorem update_tr {C : Cx} {m : Mem} (hm : MRep num C m) {id : Nat} {o : AObj} (ho : m[id]? = some o) (hlo : o.live = true) {arr cs : Array Value} {e : TypeId}
    (hw : C.w.heap[C.σ id]? = some (.cells arr e (0, 0))) (hs : cs.size = arr.size) : Tr some C { C with w := C.w.setRow (C.σ id) cs } := by
  refine ⟨fun _ h => h, fun b hb => ?_, fun i j hi hj => ?_⟩
  · show (C.w.setRow (C.σ id) cs).heap[b]? = _
    rw [setRow_get _ _ _ _ _ hw, if_neg]
    intro hb'
    exact hm.imm b ⟨id, o, ho, hlo, hb'.symm⟩ hb
  · cases hj
    refine ⟨hi, rfl, fun arr' e' h' => ?_⟩
    show ∃ a, (C.w.setRow (C.σ id) cs).heap[C.σ i]? = _ ∧ _
    rw [setRow_get _ _ _ _ _ hw]
    by_cases hc : C.σ i = C.σ id
    · rw [if_pos hc]
      rw [hc, hw] at h'
      obtain ⟨rfl, rfl⟩ : arr = arr' ∧ e = e' := by simpa using h'
      exact ⟨cs, rfl, hs⟩
    · rw [if_neg hc]
      exact ⟨arr', h', rfl⟩

theorem set_get {α : Type} (l : List α) (i : Nat) (x : α) (j : Nat) : (l.set i x)[j]? = if i = j ∧ j < l.length then some x else l[j]? := by
  rw [List.getElem?_set]
  by_cases h : i = j
  · subst h
    by_cases h2 : i < l.length
    · simp [h2]
    · simp [h2, List.getElem?_eq_none (Nat.le_of_not_lt h2)]
  · simp [h]

theorem update_step {C : Cx} {m : Mem} (hm : MRep num C m) {id : Nat} {o o' : AObj} (ho : m[id]? = some o) (hlo : o.live = true) {arr cs : Array Value} {e : TypeId}
    (hw : C.w.heap[C.σ id]? = some (.cells arr e (0, 0))) (hs : cs.size = arr.size) (hlo' : o'.live = true) (hmv : o'.moved = false → o.moved = false)
    (hr : ORep num { C with w := C.w.setRow (C.σ id) cs } id o') {k : Nat} (hk : k ≤ m.length) :
    Step num k C m { C with w := C.w.setRow (C.σ id) cs } (m.set id o') := by
  have ht := update_tr hm ho hlo hw hs
  have hid : id < m.length := (List.getElem?_eq_some_iff.1 ho).1
  have hg : ∀ b, (C.w.setRow (C.σ id) cs).heap[b]? = if b = C.σ id then some (.cells cs e (0, 0)) else C.w.heap[b]? := fun b => setRow_get _ _ _ _ _ hw b
  have hown : ∀ b, Own { C with w := C.w.setRow (C.σ id) cs } (m.set id o') b → Own C m b := by
    rintro b ⟨i, p, hp, hl, hb⟩
    rw [set_get] at hp
    split at hp
    · rename_i hi
      obtain ⟨rfl, _⟩ := hi
      exact ⟨id, o, ho, hlo, hb⟩
    · exact ⟨i, p, hp, hl, hb⟩
  refine ⟨⟨by simpa using hm.len, ?_, ?_, fun b hb => hm.imm b (hown b hb), fun b hb => by show b < (C.w.setRow (C.σ id) cs).heap.size; rw [size_setRow]; exact hm.bd b hb⟩, rfl, rfl, rfl, by show _ ≤ (C.w.setRow (C.σ id) cs).heap.size; rw [size_setRow]; exact Nat.le_refl _, ?_, ?_, fun _ h => h, fun _ h => .inl h, fun b hb => .inr (hown b hb), ?_, by simpa using hk⟩
  · intro i p hp
    rw [set_get] at hp
    split at hp
    · rename_i hi
      obtain ⟨rfl, _⟩ := hi
      obtain rfl := Option.some.inj hp
      exact hr
    · rename_i hi
      have hne : i ≠ id := fun e => hi ⟨e.symm, by have := (List.getElem?_eq_some_iff.1 hp).1; exact this⟩
      by_cases hlp : p.live = true
      · refine orep_mono ht rfl (fun x hx => ?_) (hm.obj i p hp)
        show (C.w.setRow (C.σ id) cs).heap[C.σ i]? = _
        rw [hg, if_neg fun e => hne (hm.inj i id _ _ hp ho hlp hlo e)]; exact hx
      · cases p with
        | dead => trivial
        | _ => exact absurd rfl hlp
  · intro i j p q hp hq hlp hlq hσ
    have back : ∀ (i : Nat) (p : AObj), (m.set id o')[i]? = some p → p.live = true → ∃ p' : AObj, m[i]? = some p' ∧ p'.live = true := by
      intro i p hp hl
      rw [set_get] at hp
      split at hp
      · rename_i hi; obtain ⟨rfl, _⟩ := hi; exact ⟨o, ho, hlo⟩
      · exact ⟨p, hp, hl⟩
    obtain ⟨p', hp', hlp'⟩ := back i p hp hlp
    obtain ⟨q', hq', hlq'⟩ := back j q hq hlq
    exact hm.inj i j p' q' hp' hq' hlp' hlq' hσ
  · intro b _ hno
    show (C.w.setRow (C.σ id) cs).heap[b]? = _
    rw [hg, if_neg fun e => hno ⟨id, o, ho, hlo, e.symm⟩]
  · intro b arr' e' hw'
    show ∃ x, (C.w.setRow (C.σ id) cs).heap[b]? = _ ∧ _
    rw [hg]
    by_cases hb : b = C.σ id
    · subst hb
      rw [hw] at hw'
      obtain ⟨rfl, rfl⟩ : arr = arr' ∧ e = e' := by simpa using hw'
      exact ⟨cs, by rw [if_pos rfl], hs⟩
    · exact ⟨arr', by rw [if_neg hb]; exact hw', rfl⟩
  · intro i _ p hp hmp
    rw [set_get] at hp
    split at hp
    · rename_i hi
      obtain ⟨rfl, _⟩ := hi
      obtain rfl := Option.some.inj hp
      exact ⟨o, ho, hmv hmp, rfl⟩
    · exact ⟨p, hp, hmp, rfl⟩

/-! ### an object made -/

/-- One object more, in a new block. 'w1': the world ahead of it, a draw later perhaps. -/
def Cx.more (C : Cx) (w1 : World) (o : Obj) : Cx := { σ := fun i => if i = C.n then C.w.heap.size else C.σ i, I := C.I, n := C.n + 1, w := w1.alloc o }

theorem alloc_get {w : World} {o : Obj} {k : Nat} : (w.alloc o).heap[k]? = if k = w.heap.size then some o else w.heap[k]? := by
  by_cases h : k = w.heap.size
  · subst h; rw [if_pos rfl]; exact heap_alloc_new w o
  · rw [if_neg h]
    rcases Nat.lt_or_ge k w.heap.size with h' | h'
    · exact heap_alloc_old w o k h'
    · rw [Array.getElem?_eq_none (by simp; omega), Array.getElem?_eq_none h']

theorem more_tr {C : Cx} {m : Mem} (hm : MRep num C m) {w1 : World} (hw1 : w1.heap = C.w.heap) (o : Obj) : Tr some C (C.more w1 o) := by
  have lt : ∀ k (x : Obj), C.w.heap[k]? = some x → k < C.w.heap.size := fun k x h => (Array.getElem?_eq_some_iff.1 h).1
  refine ⟨fun _ h => h, fun b hb => ?_, fun i j hi hj => ?_⟩
  · show (w1.alloc o).heap[b]? = _
    rw [alloc_get, hw1, if_neg (by have := hm.bd b hb; omega)]
  · cases hj
    have hne : i ≠ C.n := by omega
    refine ⟨Nat.lt_succ_of_lt hi, by simp [Cx.more, hne], fun arr e h => ⟨arr, ?_, rfl⟩⟩
    show (w1.alloc o).heap[C.σ i]? = _
    rw [alloc_get, hw1, if_neg (by have := lt _ _ h; omega)]; exact h

theorem more_step {C : Cx} {m : Mem} (hm : MRep num C m) {w1 : World} (hw1 : w1.heap = C.w.heap) (hos : w1.os = C.w.os) (htp : w1.tape = C.w.tape) (hout : w1.output = C.w.output) (ob : Obj) (o' : AObj)
    (hr : ORep num (C.more w1 ob) C.n o') {k : Nat} (hk : k ≤ m.length) :
    Step num k C m (C.more w1 ob) (m ++ [o']) := by
  have ht := more_tr hm hw1 ob
  have hlen := hm.len
  have hsz : C.w.heap.size ≤ (w1.alloc ob).heap.size := by rw [World.size_alloc, hw1]; omega
  have hσ : ∀ i, i < m.length → (C.more w1 ob).σ i = C.σ i := fun i hi => by simp only [Cx.more]; rw [if_neg (by omega)]
  have split : ∀ (i : Nat) (p : AObj), (m ++ [o'])[i]? = some p → (i < m.length ∧ m[i]? = some p) ∨ (i = C.n ∧ p = o') := by
    intro i p hp
    rcases Nat.lt_or_ge i m.length with h | h
    · rw [List.getElem?_append_left h] at hp; exact .inl ⟨h, hp⟩
    · rw [List.getElem?_append_right h] at hp
      have h0 : i - m.length = 0 := by
        rcases Nat.eq_zero_or_pos (i - m.length) with h0 | h0
        · exact h0
        · rw [List.getElem?_eq_none (by simp; omega)] at hp; cases hp
      rw [h0] at hp
      exact .inr ⟨by omega, by simpa using hp.symm⟩
  have hown : ∀ b, Own (C.more w1 ob) (m ++ [o']) b → C.w.heap.size ≤ b ∨ Own C m b := by
    rintro b ⟨i, p, hp, hl, hb⟩
    rcases split i p hp with ⟨hi, hp'⟩ | ⟨rfl, rfl⟩
    · rw [hσ i hi] at hb; exact .inr ⟨i, p, hp', hl, hb⟩
    · simp [Cx.more] at hb; exact .inl (by omega)
  refine ⟨⟨by simp [Cx.more, hlen], ?_, ?_, ?_, ?_⟩, hos, htp, hout, hsz, ?_, ?_, fun _ h => h, fun _ h => .inl h, hown, ?_, by simp; omega⟩
  · intro i p hp
    rcases split i p hp with ⟨hi, hp'⟩ | ⟨rfl, rfl⟩
    · refine orep_mono ht (hσ i hi) (fun x hx => ?_) (hm.obj i p hp')
      show (w1.alloc _).heap[_]? = _
      rw [alloc_get, hw1, if_neg (by have := (Array.getElem?_eq_some_iff.1 hx).1; omega)]; exact hx
    · exact hr
  · intro i j p q hp hq hlp hlq hσe
    rcases split i p hp with ⟨hi, hp'⟩ | ⟨rfl, rfl⟩ <;> rcases split j q hq with ⟨hj, hq'⟩ | ⟨rfl, rfl⟩
    · rw [hσ i hi, hσ j hj] at hσe
      exact hm.inj i j p q hp' hq' hlp hlq hσe
    · rw [hσ i hi] at hσe
      have : Own C m (C.σ i) := ⟨i, p, hp', hlp, rfl⟩
      have := MRep.lt num hm this
      simp [Cx.more] at hσe
      omega
    · rw [hσ j hj] at hσe
      have : Own C m (C.σ j) := ⟨j, q, hq', hlq, rfl⟩
      have := MRep.lt num hm this
      simp [Cx.more] at hσe
      omega
    · rfl
  · intro b hb hI
    rcases hown b hb with h | h
    · have := hm.bd b hI; omega
    · exact hm.imm b h hI
  · intro b hb
    exact Nat.lt_of_lt_of_le (hm.bd b hb) hsz
  · intro b hb _
    show (w1.alloc _).heap[b]? = _
    rw [alloc_get, hw1, if_neg (by omega)]
  · intro b arr' e' hw'
    refine ⟨arr', ?_, rfl⟩
    show (w1.alloc _).heap[b]? = _
    rw [alloc_get, hw1, if_neg (by have := (Array.getElem?_eq_some_iff.1 hw').1; omega)]
    exact hw'
  · intro i hi p hp hmp
    rcases split i p hp with ⟨hi', hp'⟩ | ⟨rfl, rfl⟩
    · exact ⟨p, hp', hmp, hσ i hi'⟩
    · omega

end
end Go.EX
