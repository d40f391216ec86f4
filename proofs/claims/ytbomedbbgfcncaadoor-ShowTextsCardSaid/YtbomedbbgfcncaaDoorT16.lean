import Derived.Test.YtbomedbbgfcncaaDoorT15
import Derived.Test.YtbomedbbgfcncaaDoorS4c
set_option linter.unusedVariables false
set_option linter.unusedSimpArgs false
namespace Go.EX
def Agree2 (c : ByteArray) (p : ByteArray × Bool) : Prop := (p.2 = false ∧ p.1 = c ∧ c.size ≤ 4096) ∨ (p.2 = true ∧ 4096 < c.size)
theorem agree_put {c : ByteArray} {p : ByteArray × Bool} (h : Agree2 c p) (x : ByteArray) : Agree2 (c ++ x) (putR p x) := by
  rcases h with ⟨h1, h2, h3⟩ | ⟨h1, h2⟩
  · subst h2
    unfold putR
    by_cases h4 : 4096 < p.1.size + x.size
    · rw [if_pos (.inr h4)]
      right
      refine ⟨rfl, ?_⟩
      rw [size_append']; exact h4
    · rw [if_neg (by simp [h1]; omega)]
      left
      refine ⟨rfl, rfl, ?_⟩
      rw [size_append']; omega
  · unfold putR
    rw [if_pos (.inl h1)]
    right
    refine ⟨rfl, ?_⟩
    rw [size_append']; omega
theorem agree_items {f : Val → ByteArray → ByteArray} {g : Val → ByteArray × Bool → ByteArray × Bool} {m : Bool} : ∀ (xs : List Val) (i : Nat) (c : ByteArray) (p : ByteArray × Bool), (∀ v ∈ xs, ∀ c p, Agree2 c p → Agree2 (f v c) (g v p)) → Agree2 c p →
    Agree2 (itemsV f m xs i c).1 (itemsR g m xs i p) ∧ ((itemsV f m xs i c).2 = true → 4096 < (itemsV f m xs i c).1.size)
  | [], i, c, p, _, h => ⟨h, fun h => by cases h⟩
  | v :: r, i, c, p, hf, h => by
    unfold itemsV itemsR
    by_cases h4 : 4096 < c.size
    · rw [if_pos h4]
      have hp : p.2 = true := by
        rcases h with ⟨_, _, h3⟩ | ⟨h1, _⟩
        · omega
        · exact h1
      rw [if_pos hp]
      exact ⟨h, fun _ => h4⟩
    · rw [if_neg h4]
      have hp : ¬ p.2 = true := by
        rcases h with ⟨h1, _, _⟩ | ⟨_, h2⟩
        · simp [h1]
        · omega
      rw [if_neg hp]
      refine agree_items r (i + 1) _ _ (fun w hw => hf w (List.mem_cons_of_mem _ hw)) (hf v (List.mem_cons_self ..) _ _ ?_)
      by_cases h5 : m = true ∧ i % 2 = 1
      · rw [if_pos h5, if_pos h5]; exact agree_put h _
      · rw [if_neg h5, if_neg h5]
        split
        · exact agree_put h _
        · exact h
theorem agree_long {c c' : ByteArray} {p : ByteArray × Bool} (h : Agree2 c p) (h4 : 4096 < c.size) (x : ByteArray) : Agree2 c (putR p x) := by
  rcases h with ⟨_, _, h3⟩ | ⟨h1, h2⟩
  · omega
  · unfold putR
    rw [if_pos (.inl h1)]
    exact .inr ⟨rfl, h2⟩
theorem agree_row {f : Val → ByteArray → ByteArray} {g : Val → ByteArray × Bool → ByteArray × Bool} {o : Obj} (hf : ∀ v ∈ o.l.xs, ∀ c p, Agree2 c p → Agree2 (f v c) (g v p)) {c : ByteArray} {p : ByteArray × Bool} (h : Agree2 c p) : Agree2 (rowV f o c) (rowR g o p) := by
  unfold rowV rowR
  dsimp only
  obtain ⟨h1, h2⟩ := agree_items (m := decide (o.k = 5)) o.l.xs 0 _ _ hf (agree_put h (if decide (o.k = 5) = true then openM else openL))
  generalize itemsV f (decide (o.k = 5)) o.l.xs 0 (c ++ if decide (o.k = 5) = true then openM else openL) = q at *
  generalize itemsR g (decide (o.k = 5)) o.l.xs 0 (putR p (if decide (o.k = 5) = true then openM else openL)) = r at *
  by_cases hq : q.2 = true
  · rw [if_pos hq]
    have h4 := h2 hq
    refine agree_long (c' := c) ?_ h4 _
    split
    · exact agree_long (c' := c) h1 h4 _
    · exact h1
  · rw [if_neg hq]
    refine agree_put ?_ _
    split
    · exact agree_put h1 _
    · exact h1
theorem agree_val (S : List Obj) : ∀ (d : Nat) (v : Val) (c : ByteArray) (p : ByteArray × Bool), Agree2 c p → Agree2 (tellV S d v c) (valR S d v p)
  | 0, v, c, p, h => by
    unfold tellV valR
    cases hp : pieceOf S (0 == 0) v with
    | some x => exact agree_put h _
    | none => exact h
  | d + 1, v, c, p, h => by
    unfold tellV valR
    cases hp : pieceOf S (d + 1 == 0) v with
    | some x => exact agree_put h _
    | none =>
      cases ho : objOf S v with
      | none => exact h
      | some o => exact agree_row (fun w _ c p h => agree_val S d w c p h) h
theorem text_same (S : List Obj) (v : Val) : textOf S v = textR S v := by
  have h := agree_val S 9 v .empty (.empty, false) (.inl ⟨rfl, rfl, by decide⟩)
  unfold textOf textR
  rcases h with ⟨h1, h2, h3⟩ | ⟨h1, h2⟩
  · rw [if_neg (by omega), if_neg (by simp [h1]), h2]
  · rw [if_pos h2, if_pos h1]
theorem leads_twin (S : List Obj) (v : Val) : leadsOf (S.map twinObj) v = leadsOf S v := by
  unfold leadsOf
  simp only [List.length_map, List.getElem?_map]
  cases S[(v.n - 1).toNat]? with
  | none => rfl
  | some o => rfl
theorem objOf_twin (S : List Obj) (v : Val) : objOf (S.map twinObj) v = (objOf S v).map twinObj := by
  unfold objOf
  rw [leads_twin]
  cases leadsOf S v with
  | none => rfl
  | some k => simp
theorem piece_twin (S : List Obj) (deep : Bool) (v : Val) : pieceOf (S.map twinObj) deep v = pieceOf S deep v := by
  unfold pieceOf
  rw [objOf_twin]
  cases objOf S v with
  | none => rfl
  | some o => rfl
theorem row_twin (f : Val → ByteArray → ByteArray) (o : Obj) (c : ByteArray) : rowV f (twinObj o) c = rowV f o c := rfl
theorem tell_twin (S : List Obj) : ∀ (d : Nat) (v : Val) (c : ByteArray), tellV (S.map twinObj) d v c = tellV S d v c
  | d, v, c => by
    unfold tellV
    rw [piece_twin, objOf_twin]
    cases pieceOf S (d == 0) v with
    | some x => rfl
    | none =>
      cases d with
      | zero => rfl
      | succ d =>
        cases objOf S v with
        | none => rfl
        | some o =>
          have hf : tellV (S.map twinObj) d = tellV S d := by
            funext w c
            exact tell_twin S d w c
          show rowV (tellV (S.map twinObj) d) (twinObj o) c = rowV (tellV S d) o c
          rw [hf, row_twin]
theorem textOf_twin (S : List Obj) (v : Val) : textOf (S.map twinObj) v = textOf S v := by
  unfold textOf
  rw [tell_twin]
end Go.EX

