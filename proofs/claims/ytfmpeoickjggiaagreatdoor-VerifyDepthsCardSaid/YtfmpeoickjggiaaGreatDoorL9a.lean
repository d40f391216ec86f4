import Derived.Test.YtfmpeoickjggiaaGreatDoorV9o
set_option linter.unusedVariables false
set_option linter.unusedSimpArgs false
namespace Go.EX
structure Goes (s t : DS) : Prop where
  keep : ∀ (p : Nat) (w : Int), s.told[p]? = some w → 0 ≤ w → t.told[p]? = some w
  todo : ∀ x ∈ s.todo, x ∈ t.todo
  new : ∀ (p : Nat) (w : Int), t.told[p]? = some w → 0 ≤ w → s.told[p]? = some w ∨ (p : Int) ∈ t.todo
  ok : t.ok = true → s.ok = true
theorem Goes.refl (s : DS) : Goes s s := ⟨fun _ _ h _ => h, fun _ h => h, fun _ _ h _ => .inl h, fun h => h⟩
theorem Goes.trans {s t u : DS} (h : Goes s t) (g : Goes t u) : Goes s u :=
  ⟨fun p w h1 h2 => g.keep p w (h.keep p w h1 h2) h2, fun x hx => g.todo x (h.todo x hx), fun p w h1 h2 => by
    rcases g.new p w h1 h2 with h3 | h3
    · rcases h.new p w h3 h2 with h4 | h4
      · exact .inl h4
      · exact .inr (g.todo _ h4)
    · exact .inr h3, fun h1 => h.ok (g.ok h1)⟩
theorem tellD_goes (s : DS) (q : Nat) (d : Int) : Goes s (tellD s q d) := by
  unfold tellD
  split
  · rename_i v hv
    split
    · rename_i hneg
      refine ⟨fun p w h1 h2 => ?_, fun x hx => mem_insD.2 (.inr hx), fun p w h1 h2 => ?_, fun h => h⟩
      · simp only [List.getElem?_set]
        have hne : q ≠ p := fun e => by subst e; rw [hv] at h1; cases h1; omega
        rw [if_neg hne]; exact h1
      · by_cases hqp : q = p
        · subst hqp; exact .inr (mem_insD.2 (.inl rfl))
        · simp only [List.getElem?_set, if_neg hqp] at h1
          exact .inl h1
    · exact ⟨fun _ _ h _ => h, fun _ h => h, fun _ _ h _ => .inl h, fun h => (Bool.and_eq_true _ _ ▸ h : _ ∧ _).1⟩
  · exact .refl s
theorem tellD_got {s : DS} {q : Nat} {d : Int} (hq : q < s.told.length) (h : (tellD s q d).ok = true) : (tellD s q d).told[q]? = some d := by
  unfold tellD at h ⊢
  have hv := List.getElem?_eq_getElem hq
  generalize s.told[q] = v at hv
  rw [hv] at h ⊢
  simp only at h ⊢
  split
  · simp [hq]
  · rename_i hneg
    rw [if_neg hneg] at h
    simp only [Bool.and_eq_true, decide_eq_true_eq] at h
    rw [← h.2]; exact hv
theorem handGo_goes {pc : Nat} {d : Int} : ∀ (hs : List Handler) (s t : DS), handGo pc d hs s = some t → Goes s t
  | [], s, t, h => by cases h; exact .refl s
  | x :: r, s, t, h => by
    rw [handGo] at h
    split at h
    · split at h
      · cases h
      · exact (tellD_goes _ _ _).trans (handGo_goes r _ t h)
    · exact handGo_goes r s t h
theorem handGo_told {n : Nat} {pc : Nat} {d : Int} : ∀ (hs : List Handler) (s t : DS), (∀ h ∈ hs, handOk n h = true) → s.told.length = n → handGo pc d hs s = some t → t.ok = true →
    ∀ h ∈ hs, isB pc h.fr h.to = true → ¬ d < h.deep ∧ t.told[h.at'.toNat]? = some (h.deep + 1)
  | [], s, t, _, _, _, _, h, hm, _ => by cases hm
  | x :: r, s, t, hall, hl, hg, hok, h, hm, hb => by
    have hx := handOk_at (hall x (List.mem_cons_self ..))
    rw [handGo] at hg
    rcases List.mem_cons.1 hm with rfl | hm
    · rw [if_pos hb] at hg
      split at hg
      · cases hg
      · rename_i hd
        refine ⟨hd, ?_⟩
        have hgo := handGo_goes r _ t hg
        have := tellD_got (s := s) (q := h.at'.toNat) (d := h.deep + 1) (by rw [hl]; omega) (hgo.ok hok)
        exact hgo.keep _ _ this (by omega)
    · split at hg
      · split at hg
        · cases hg
        · exact handGo_told r _ t (fun y hy => hall y (List.mem_cons_of_mem _ hy)) (by rw [tellD_len]; exact hl) hg hok h hm hb
      · exact handGo_told r s t (fun y hy => hall y (List.mem_cons_of_mem _ hy)) hl hg hok h hm hb
theorem nextD_goes (i : Ins) (pc : Nat) (d : Int) (s : DS) : Goes s (nextD i pc d s) := by
  unfold nextD
  split
  · exact .refl s
  · split
    · exact tellD_goes _ _ _
    · split
      · exact (tellD_goes _ _ _).trans (tellD_goes _ _ _)
      · exact tellD_goes _ _ _
theorem handGo_len {pc : Nat} {d : Int} : ∀ (hs : List Handler) (s t : DS), handGo pc d hs s = some t → t.told.length = s.told.length
  | [], s, t, h => by cases h; rfl
  | x :: r, s, t, h => by
    rw [handGo] at h
    split at h
    · split at h
      · cases h
      · rw [handGo_len r _ t h, tellD_len]
    · exact handGo_len r s t h
def nexts (i : Ins) (pc : Nat) : List Nat :=
  if i.op = 28 ∨ i.op = 29 then [] else if i.op = 19 ∨ i.op = 21 then [i.a.toNat] else if i.op = 20 then [pc + 1, i.a.toNat] else [pc + 1]
structure Good (f : Fn) (told : List Int) (pc : Nat) (i : Ins) (v : Int) : Prop where
  pre : preFault v i = false
  hand : ∀ h ∈ f.handlers.xs, isB pc h.fr h.to = true → ¬ dOf v i < h.deep ∧ told[h.at'.toNat]? = some (h.deep + 1)
  next : ∀ q ∈ nexts i pc, told[q]? = some (dOf v i + (qOf i.op).2.2.1)
theorem nextD_told {n : Nat} {i : Ins} {pc : Nat} {d : Int} {s : DS} (hl : s.told.length = n) (hq : ∀ q ∈ nexts i pc, q < n) (hd : 0 ≤ d) (hok : (nextD i pc d s).ok = true) : ∀ q ∈ nexts i pc, (nextD i pc d s).told[q]? = some d := by
  unfold nexts at hq ⊢
  unfold nextD at hok ⊢
  split
  · intro q hm; cases hm
  · rename_i h1
    rw [if_neg h1] at hok hq
    split
    · rename_i h2
      rw [if_pos h2] at hok hq
      intro q hm
      rw [List.mem_singleton] at hm
      subst hm
      exact tellD_got (by rw [hl]; exact hq _ (by simp)) hok
    · rename_i h2
      rw [if_neg h2] at hok hq
      split
      · rename_i h3
        rw [if_pos h3] at hok hq
        intro q hm
        rcases List.mem_cons.1 hm with rfl | hm
        · have h4 := tellD_got (s := s) (q := pc + 1) (d := d) (by rw [hl]; exact hq _ (by simp)) ((tellD_goes _ _ _).ok hok)
          exact (tellD_goes _ _ _).keep _ _ h4 hd
        · rw [List.mem_singleton] at hm
          subst hm
          exact tellD_got (by rw [tellD_len, hl]; exact hq _ (by simp)) hok
      · rename_i h3
        rw [if_neg h3] at hok hq
        intro q hm
        rw [List.mem_singleton] at hm
        subst hm
        exact tellD_got (by rw [hl]; exact hq _ (by simp)) hok
theorem nexts_lt {np : Nat} {f : Fn} (hf : FnOk np f) {pc : Nat} {i : Ins} (hi : f.code.xs[pc]? = some i) : ∀ q ∈ nexts i pc, q < f.code.xs.length := by
  have ha := fnOk_a hf hi
  have hn := fnOk_next hf hi
  unfold nexts
  split
  · intro q hm; cases hm
  · rename_i h1
    split
    · rename_i h2
      intro q hm
      rw [List.mem_singleton] at hm
      have := ha (by omega)
      omega
    · rename_i h2
      split
      · rename_i h3
        intro q hm
        have h4 := ha (by omega)
        have h5 := hn (by omega)
        rcases List.mem_cons.1 hm with rfl | hm
        · exact h5
        · rw [List.mem_singleton] at hm
          omega
      · intro q hm
        rw [List.mem_singleton] at hm
        have h5 := hn (by omega)
        omega
theorem depStep_good {np : Nat} {f : Fn} (hf : FnOk np f) {told todo : List Int} {pc : Nat} {i : Ins} {v : Int} (hl : told.length = f.code.xs.length) (hi : f.code.xs[pc]? = some i) {s : DS} (h : depStep f i pc v told todo = some s) :
    Goes ⟨told, todo, true⟩ s ∧ Good f s.told pc i v := by
  unfold depStep at h
  split at h
  · cases h
  · rename_i hpf
    have hpf : preFault v i = false := by simpa using hpf
    have hb := pre_bd hpf
    split at h
    · cases h
    · rename_i s1 hg
      split at h
      · rename_i hok
        cases h
        have g1 := handGo_goes _ _ _ hg
        have g2 := nextD_goes i pc (dOf v i + (qOf i.op).2.2.1) s1
        have hl1 := handGo_len _ _ _ hg
        refine ⟨g1.trans g2, hpf, fun h hm hb2 => ?_, nextD_told (by rw [hl1]; exact hl) (nexts_lt hf hi) hb.2.1 hok⟩
        obtain ⟨h3, h4⟩ := handGo_told _ _ _ hf.hand hl hg (g2.ok hok) h hm hb2
        have := handOk_at (hf.hand h hm)
        exact ⟨h3, g2.keep _ _ h4 (by omega)⟩
      · cases h
def Closed (f : Fn) (told todo : List Int) : Prop := ∀ (pc : Nat) (v : Int) (i : Ins), told[pc]? = some v → 0 ≤ v → (pc : Int) ∉ todo → f.code.xs[pc]? = some i → Good f told pc i v
theorem good_goes {f : Fn} {np : Nat} (hf : FnOk np f) {s t : DS} (hg : Goes s t) {pc : Nat} {i : Ins} {v : Int} (h : Good f s.told pc i v) : Good f t.told pc i v := by
  have hb := pre_bd h.pre
  refine ⟨h.pre, fun x hm hx => ⟨(h.hand x hm hx).1, hg.keep _ _ (h.hand x hm hx).2 ?_⟩, fun q hq => hg.keep _ _ (h.next q hq) hb.2.1⟩
  have := handOk_at (hf.hand x hm)
  omega
theorem runD_closed {np : Nat} {f : Fn} (hf : FnOk np f) : ∀ (m : Nat) (told todo : List Int), DOk f.code.xs.length ⟨told, todo, true⟩ → Closed f told todo → meas ⟨told, todo, true⟩ ≤ m → ∀ T z, runD f m told todo = (some T, z) →
    Closed f T [] ∧ T.length = f.code.xs.length ∧ (∀ x ∈ T, -1 ≤ x ∧ x ≤ 256) ∧ ∀ (p : Nat) (w : Int), told[p]? = some w → 0 ≤ w → T[p]? = some w
  | 0, told, todo, hs, hc, hm, T, z, h => by
    have ht : todo = [] := List.eq_nil_of_length_eq_zero (by simp only [meas] at hm; omega)
    subst ht
    rw [runD] at h
    cases h
    exact ⟨hc, hs.len, hs.bd, fun _ _ h _ => h⟩
  | m + 1, told, todo, hs, hc, hm, T, z, h => by
    rcases List.eq_nil_or_concat todo with rfl | ⟨ini, p, rfl⟩
    · simp only [runD, List.getLast?_nil, Prod.mk.injEq, Option.some.injEq] at h
      obtain ⟨rfl, _⟩ := h
      exact ⟨hc, hs.len, hs.bd, fun _ _ h _ => h⟩
    · simp only [List.concat_eq_append] at hs hc hm h
      have hin := hs.falls.inn p (by simp)
      obtain ⟨pc, rfl⟩ : ∃ pc : Nat, p = pc := ⟨p.toNat, by omega⟩
      obtain ⟨v, hv, hv0⟩ := hs.told pc (by simp)
      have hpc : pc < f.code.xs.length := by omega
      have hi := List.getElem?_eq_getElem hpc
      generalize f.code.xs[pc] = i at hi
      have hs2 : DOk f.code.xs.length ⟨told, ini, true⟩ := by
        refine ⟨hs.len, ⟨?_, fun x hx => hs.falls.inn x (by simp [hx])⟩, fun q hq => hs.told q (by simp at hq ⊢; exact .inl hq), hs.bd⟩
        have := hs.falls.sort
        simp only [List.pairwise_append] at this
        exact this.1
      have hm2 : meas ⟨told, ini, true⟩ ≤ m := by simp [meas] at hm ⊢; omega
      simp only [runD, Int.toNat_natCast, hi, hv, List.dropLast_concat, List.getLast?_append, List.getLast?_singleton, Option.some_or] at h
      cases hst : depStep f i pc v told ini with
      | none => rw [hst] at h; cases h
      | some s =>
        rw [hst] at h
        simp only at h
        obtain ⟨h1, h2, h3⟩ := depStep_ok hf hs2 hi hst
        obtain ⟨g1, g2⟩ := depStep_good hf hs.len hi hst
        obtain ⟨t2, d2, ok2⟩ := s
        simp only at h3; subst h3
        have hc2 : Closed f t2 d2 := by
          intro q w j hw hw0 hno hj
          by_cases hqp : q = pc
          · subst hqp
            rw [hi] at hj; cases hj
            have hvw := g1.keep q v hv hv0
            simp only at hvw hw
            rw [hw] at hvw; cases hvw
            exact g2
          · rcases g1.new q w hw hw0 with h4 | h4
            · refine good_goes hf g1 (hc q w j h4 hw0 (fun hmem => ?_) hj)
              rw [List.mem_append, List.mem_singleton] at hmem
              rcases hmem with h5 | h5
              · exact hno (g1.todo _ h5)
              · exact hqp (by omega)
            · exact absurd h4 hno
        obtain ⟨r1, r2, r3, r4⟩ := runD_closed hf m t2 d2 h1 hc2 (by rw [h2]; exact hm2) T z h
        exact ⟨r1, r2, r3, fun p w hp hw => r4 p w (g1.keep p w hp hw) hw⟩
end Go.EX

