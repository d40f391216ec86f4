import Derived.Test.YtbomedbbgfcncaaDoorK4
set_option linter.unusedVariables false
set_option linter.unusedSimpArgs false
namespace Go.EX
def leadsOf (S : List Obj) (v : Val) : Option Nat :=
  if v.k < 3 then none else if 7 < v.k then none else if v.n < 1 then none else if (S.length : Int) < v.n then none else
  match S[(v.n - 1).toNat]? with
  | some o => if o.k = v.k then some (v.n - 1).toNat else none
  | none => none
theorem leadsOf_some {S : List Obj} {v : Val} {k : Nat} (h : leadsOf S v = some k) : k < S.length ∧ (k : Int) = v.n - 1 ∧ 3 ≤ v.k ∧ v.k ≤ 7 ∧ ∃ o, S[k]? = some o ∧ o.k = v.k := by
  unfold leadsOf at h
  split at h
  · cases h
  split at h
  · cases h
  split at h
  · cases h
  split at h
  · cases h
  split at h
  · rename_i o ho
    split at h
    · rename_i hk
      cases h
      have := (List.getElem?_eq_some_iff.1 ho).1
      exact ⟨this, by omega, by omega, by omega, o, ho, hk⟩
    · cases h
  · cases h
inductive Reach (S : List Obj) (roots : List Val) : Nat → Prop
  | root {v : Val} {j : Nat} (hv : v ∈ roots) (h : leadsOf S v = some j) : Reach S roots j
  | step {k j : Nat} {o : Obj} {v : Val} (hk : Reach S roots k) (ho : S[k]? = some o) (hv : v ∈ o.l.xs) (h : leadsOf S v = some j) : Reach S roots j
theorem Reach.lt {S : List Obj} {roots : List Val} {k : Nat} (h : Reach S roots k) : k < S.length := by
  cases h with
  | root _ h => exact (leadsOf_some h).1
  | step _ _ _ h => exact (leadsOf_some h).1
structure Marks (S : List Obj) (roots : List Val) (F : List Bool) (T : List Val) : Prop where
  len : F.length = S.length
  mark : ∀ k, F[k]? = some true → Reach S roots k
  todo : ∀ v ∈ T, ∀ j, leadsOf S v = some j → Reach S roots j
  roots : ∀ v ∈ roots, ∀ j, leadsOf S v = some j → F[j]? = some true ∨ v ∈ T
  step : ∀ (k : Nat) (o : Obj), F[k]? = some true → S[k]? = some o → ∀ v ∈ o.l.xs, ∀ j : Nat, leadsOf S v = some j → F[j]? = some true ∨ v ∈ T
theorem Marks.start (S : List Obj) (roots : List Val) : Marks S roots (List.replicate S.length false) roots :=
  ⟨by simp, fun k h => by simp [List.getElem?_replicate] at h, fun v hv j h => .root hv h, fun v hv j h => .inr hv, fun k o h => by simp [List.getElem?_replicate] at h⟩
theorem Marks.drop {S : List Obj} {roots : List Val} {F : List Bool} {T : List Val} {v : Val} (h : Marks S roots F (T ++ [v])) (hv : ∀ j, leadsOf S v = some j → F[j]? = some true) : Marks S roots F T := by
  have key : ∀ u j, leadsOf S u = some j → (F[j]? = some true ∨ u ∈ T ++ [v]) → F[j]? = some true ∨ u ∈ T := by
    intro u j hu h1
    rcases h1 with h1 | h1
    · exact .inl h1
    · rw [List.mem_append, List.mem_singleton] at h1
      rcases h1 with h1 | rfl
      · exact .inr h1
      · exact .inl (hv j hu)
  exact ⟨h.len, h.mark, fun u hu j hj => h.todo u (List.mem_append_left _ hu) j hj, fun u hu j hj => key u j hj (h.roots u hu j hj), fun k o hk ho u hu j hj => key u j hj (h.step k o hk ho u hu j hj)⟩
theorem Marks.take {S : List Obj} {roots : List Val} {F : List Bool} {T : List Val} {v : Val} {k : Nat} {o : Obj} (h : Marks S roots F (T ++ [v])) (hv : leadsOf S v = some k) (hF : F[k]? = some false) (ho : S[k]? = some o) : Marks S roots (F.set k true) (T ++ o.l.xs) := by
  have hkl : k < F.length := (List.getElem?_eq_some_iff.1 hF).1
  have hk := h.todo v (by simp) k hv
  have hset : ∀ j, (F.set k true)[j]? = some true ↔ j = k ∨ F[j]? = some true := by
    intro j
    rw [List.getElem?_set]
    by_cases e : k = j
    · subst e; simp [hkl]
    · rw [if_neg e]; simp [Ne.symm e]
  have key : ∀ u j, leadsOf S u = some j → (F[j]? = some true ∨ u ∈ T ++ [v]) → (F.set k true)[j]? = some true ∨ u ∈ T ++ o.l.xs := by
    intro u j hu h1
    rcases h1 with h1 | h1
    · exact .inl ((hset j).2 (.inr h1))
    · rw [List.mem_append, List.mem_singleton] at h1
      rcases h1 with h1 | rfl
      · exact .inr (List.mem_append_left _ h1)
      · rw [hv] at hu; cases hu; exact .inl ((hset k).2 (.inl rfl))
  refine ⟨by simp [h.len], fun j hj => ?_, fun u hu j hj => ?_, fun u hu j hj => key u j hj (h.roots u hu j hj), fun q p hq hp u hu j hj => ?_⟩
  · rcases (hset j).1 hj with rfl | hj
    · exact hk
    · exact h.mark j hj
  · rw [List.mem_append] at hu
    rcases hu with hu | hu
    · exact h.todo u (List.mem_append_left _ hu) j hj
    · exact .step hk ho hu hj
  · rcases (hset q).1 hq with rfl | hq
    · rw [ho] at hp; cases hp
      exact .inr (List.mem_append_right _ hu)
    · exact key u j hj (h.step q p hq hp u hu j hj)
theorem Marks.done {S : List Obj} {roots : List Val} {F : List Bool} (h : Marks S roots F []) (k : Nat) : F[k]? = some true ↔ Reach S roots k := by
  refine ⟨h.mark k, fun hk => ?_⟩
  induction hk with
  | root hv hl => rcases h.roots _ hv _ hl with h | h; exact h; cases h
  | step _ ho hv hl ih => rcases h.step _ _ ih ho _ hv _ hl with h | h; exact h; cases h
def addAll (S : List Obj) : List Nat → List Val → List Nat
  | out, [] => out
  | out, v :: l => match leadsOf S v with
    | some o => if o ∈ out then addAll S out l else addAll S (out ++ [o]) l
    | none => addAll S out l
theorem addAll_pre (S : List Obj) : ∀ (l : List Val) (out : List Nat), ∃ r, addAll S out l = out ++ r
  | [], out => ⟨[], by simp [addAll]⟩
  | v :: l, out => by
    rw [addAll]
    split
    · rename_i o ho
      split
      · exact addAll_pre S l out
      · obtain ⟨r, hr⟩ := addAll_pre S l (out ++ [o])
        exact ⟨o :: r, by rw [hr]; simp⟩
    · exact addAll_pre S l out
theorem addAll_nodup (S : List Obj) : ∀ (l : List Val) (out : List Nat), out.Nodup → (addAll S out l).Nodup
  | [], out, h => h
  | v :: l, out, h => by
    rw [addAll]
    split
    · rename_i o ho
      split
      · exact addAll_nodup S l out h
      · rename_i hn
        refine addAll_nodup S l _ ?_
        rw [List.nodup_append]
        exact ⟨h, by simp, fun a ha b hb => by simp at hb; subst hb; exact fun e => hn (e ▸ ha)⟩
    · exact addAll_nodup S l out h
theorem addAll_mem (S : List Obj) : ∀ (l : List Val) (out : List Nat) (j : Nat), j ∈ addAll S out l ↔ j ∈ out ∨ ∃ v ∈ l, leadsOf S v = some j
  | [], out, j => by simp [addAll]
  | v :: l, out, j => by
    rw [addAll]
    split
    · rename_i o ho
      split
      · rename_i hm
        rw [addAll_mem S l out j]
        constructor
        · rintro (h | ⟨u, hu, h⟩)
          · exact .inl h
          · exact .inr ⟨u, List.mem_cons_of_mem _ hu, h⟩
        · rintro (h | ⟨u, hu, h⟩)
          · exact .inl h
          · rcases List.mem_cons.1 hu with rfl | hu
            · rw [ho] at h; cases h; exact .inl hm
            · exact .inr ⟨u, hu, h⟩
      · rw [addAll_mem S l _ j, List.mem_append, List.mem_singleton]
        constructor
        · rintro ((h | rfl) | ⟨u, hu, h⟩)
          · exact .inl h
          · exact .inr ⟨v, List.mem_cons_self .., ho⟩
          · exact .inr ⟨u, List.mem_cons_of_mem _ hu, h⟩
        · rintro (h | ⟨u, hu, h⟩)
          · exact .inl (.inl h)
          · rcases List.mem_cons.1 hu with rfl | hu
            · rw [ho] at h; cases h; exact .inl (.inr rfl)
            · exact .inr ⟨u, hu, h⟩
    · rename_i hn
      rw [addAll_mem S l out j]
      constructor
      · rintro (h | ⟨u, hu, h⟩)
        · exact .inl h
        · exact .inr ⟨u, List.mem_cons_of_mem _ hu, h⟩
      · rintro (h | ⟨u, hu, h⟩)
        · exact .inl h
        · rcases List.mem_cons.1 hu with rfl | hu
          · rw [hn] at h; cases h
          · exact .inr ⟨u, hu, h⟩
structure Grown (S : List Obj) (roots : List Val) (out : List Nat) (i : Nat) : Prop where
  nodup : out.Nodup
  reach : ∀ k ∈ out, Reach S roots k
  roots : ∀ v ∈ roots, ∀ j, leadsOf S v = some j → j ∈ out
  step : ∀ k ∈ out.take i, ∀ o : Obj, S[k]? = some o → ∀ v ∈ o.l.xs, ∀ j, leadsOf S v = some j → j ∈ out
theorem Grown.start (S : List Obj) (roots : List Val) : Grown S roots (addAll S [] roots) 0 :=
  ⟨addAll_nodup S roots [] (by simp), fun k hk => by
    rcases (addAll_mem S roots [] k).1 hk with h | ⟨v, hv, h⟩
    · cases h
    · exact .root hv h, fun v hv j hj => (addAll_mem S roots [] j).2 (.inr ⟨v, hv, hj⟩), fun k hk => by simp at hk⟩
theorem Grown.next {S : List Obj} {roots : List Val} {out : List Nat} {i k : Nat} {o : Obj} (h : Grown S roots out i) (hk : out[i]? = some k) (ho : S[k]? = some o) : Grown S roots (addAll S out o.l.xs) (i + 1) := by
  have hi := (List.getElem?_eq_some_iff.1 hk).1
  refine ⟨addAll_nodup S _ _ h.nodup, fun j hj => ?_, fun v hv j hj => (addAll_mem S _ _ j).2 (.inl (h.roots v hv j hj)), fun q hq p hp v hv j hj => ?_⟩
  · rcases (addAll_mem S _ _ j).1 hj with hj | ⟨v, hv, hj⟩
    · exact h.reach j hj
    · exact .step (h.reach k (List.mem_of_getElem? hk)) ho hv hj
  · obtain ⟨r, hr⟩ := addAll_pre S o.l.xs out
    rw [hr, List.take_append_of_le_length (by omega), List.take_add_one, hk, List.mem_append] at hq
    rcases hq with hq | hq
    · exact (addAll_mem S _ _ j).2 (.inl (h.step q hq p hp v hv j hj))
    · simp at hq; subst hq
      rw [ho] at hp; cases hp
      exact (addAll_mem S _ _ j).2 (.inr ⟨v, hv, hj⟩)
theorem Grown.done {S : List Obj} {roots : List Val} {out : List Nat} {i : Nat} (h : Grown S roots out i) (hi : out.length ≤ i) (k : Nat) : k ∈ out ↔ Reach S roots k := by
  refine ⟨h.reach k, fun hk => ?_⟩
  have hs := h.step
  rw [List.take_of_length_le hi] at hs
  induction hk with
  | root hv hl => exact h.roots _ hv _ hl
  | step _ ho hv hl ih => exact hs _ ih _ ho _ hv _ hl
end Go.EX

