/-
  EX: law 04: show's keys: the plain law.
-/
import Derived.Test.YtbomedbbgfcncaaS4s
set_option linter.unusedVariables false
set_option linter.unusedSimpArgs false
namespace Go.EX

theorem norm_fst (T : List Obj) (v : Val) : (normOf T v).1 = v.k := by
  unfold normOf
  split
  · split
    · simp_all
    · rfl
  · rfl

theorem norm_same (T : List Obj) (a b : Val) (ha : valOf T a = true) (hb : valOf T b = true) : normOf T a = normOf T b ↔ sameOf T a b = true := by
  unfold normOf sameOf
  by_cases hk : a.k = b.k
  · rw [if_neg (show ¬ (a.k ≠ b.k) from fun c => c hk)]
    by_cases h0 : a.k = 0
    · have hb0 : b.k = 0 := by omega
      unfold valOf at ha hb
      rw [if_pos h0] at ha
      rw [if_pos hb0] at hb
      simp at ha hb
      simp [h0, hb0, ha, hb]
    · rw [if_neg h0]
      by_cases h3 : a.k = 3
      · have hb3 : b.k = 3 := by omega
        rw [if_pos h3, if_pos hb3, if_pos h3]
        have ga : (leadsOf T a).isSome = true := by
          unfold valOf at ha
          rw [if_neg (by omega), if_neg (by omega), if_neg (by omega)] at ha; exact ha
        have gb : (leadsOf T b).isSome = true := by
          unfold valOf at hb
          rw [if_neg (by omega), if_neg (by omega), if_neg (by omega)] at hb; exact hb
        obtain ⟨i, hi⟩ := Option.isSome_iff_exists.1 ga
        obtain ⟨j, hj⟩ := Option.isSome_iff_exists.1 gb
        rw [hi, hj]
        by_cases hn : a.n = b.n
        · rw [if_pos hn]
          have hij : i = j := by
            have h1 := (leadsOf_some hi).2.1
            have h2 := (leadsOf_some hj).2.1
            omega
          subst hij; simp
        · rw [if_neg hn]; simp
      · have hb3 : ¬ b.k = 3 := by omega
        rw [if_neg h3, if_neg hb3, if_neg h3]
        by_cases hn : a.n = b.n
        · simp [hn, hk]
        · simp [hn]
  · rw [if_pos hk]
    refine ⟨fun h => ?_, fun h => by cases h⟩
    have h1 := norm_fst T a
    have h2 := norm_fst T b
    unfold normOf at h1 h2
    rw [h, h2] at h1
    exact absurd h1.symm hk

theorem norms_mem (T : List Obj) (l : List Val) : ∀ (j : Nat), 2 * j ≤ l.length → ∀ x, x ∈ normsTo T l (2 * j) ↔ ∃ p v, p < j ∧ l[2 * p]? = some v ∧ normOf T v = x
  | 0, _, x => by
    refine ⟨fun h => by simp [normsTo] at h, ?_⟩
    rintro ⟨p, v, h, _⟩; omega
  | j + 1, hj, x => by
    have hlt : 2 * j < l.length := by omega
    have ih := norms_mem T l j (by omega) x
    have hg := List.getElem?_eq_getElem hlt
    have e := normsTo_two T l (2 * j) l[2 * j] (by omega) hg
    have e' : 2 * (j + 1) = 2 * j + 2 := by omega
    rw [e', e]
    have hadd : x ∈ addNorm (normsTo T l (2 * j)) (normOf T l[2 * j]) ↔ x ∈ normsTo T l (2 * j) ∨ normOf T l[2 * j] = x := by
      unfold addNorm
      split
      · rename_i hm
        refine ⟨.inl, ?_⟩
        rintro (h | h)
        · exact h
        · rw [← h]; exact hm
      · simp [eq_comm]
    rw [hadd, ih]
    constructor
    · rintro (⟨p, v, h1, h2, h3⟩ | h)
      · exact ⟨p, v, by omega, h2, h3⟩
      · exact ⟨j, _, by omega, hg, h⟩
    · rintro ⟨p, v, h1, h2, h3⟩
      by_cases hp : p = j
      · subst hp; rw [hg] at h2; cases h2; exact .inr h3
      · exact .inl ⟨p, v, by omega, h2, h3⟩

theorem norms_len (T : List Obj) (l : List Val) : ∀ (j : Nat), 2 * j ≤ l.length → (normsTo T l (2 * j)).length ≤ j ∧
    ((normsTo T l (2 * j)).length = j ↔ ∀ (p q : Nat) (a b : Val), q < p → p < j → l[2 * p]? = some a → l[2 * q]? = some b → normOf T a ≠ normOf T b)
  | 0, _ => by
    refine ⟨by simp [normsTo], fun _ p q a b h1 h2 => by omega, fun _ => by simp [normsTo]⟩
  | j + 1, hj => by
    have hlt : 2 * j < l.length := by omega
    obtain ⟨ih1, ih2⟩ := norms_len T l j (by omega)
    have hm := norms_mem T l j (by omega) (normOf T l[2 * j])
    have hg := List.getElem?_eq_getElem hlt
    have e := normsTo_two T l (2 * j) l[2 * j] (by omega) hg
    have e' : 2 * (j + 1) = 2 * j + 2 := by omega
    rw [e', e]
    unfold addNorm
    split
    · rename_i hx
      refine ⟨by omega, fun h => by omega, fun h => ?_⟩
      obtain ⟨p, v, h1, h2, h3⟩ := hm.1 hx
      exact absurd h3.symm (h j p _ v h1 (by omega) hg h2)
    · rename_i hx
      refine ⟨by simp; omega, ?_⟩
      rw [List.length_append, List.length_singleton]
      constructor
      · intro h p q a b h1 h2 h3 h4
        by_cases hp : p = j
        · subst hp
          rw [hg] at h3; cases h3
          intro hc
          exact hx (hm.2 ⟨q, b, h1, h4, hc.symm⟩)
        · exact ih2.1 (by omega) p q a b h1 (by omega) h3 h4
      · intro h
        have := ih2.2 fun p q a b h1 h2 h3 h4 => h p q a b h1 (by omega) h3 h4
        omega

theorem keys_iff (T : List Obj) (l : List Val) (hev : l.length % 2 = 0) (hv : ∀ v ∈ l, valOf T v = true) : (normsTo T l l.length).length = l.length / 2 ↔ KeysOk T l := by
  have hl : l.length = 2 * (l.length / 2) := by omega
  have h := (norms_len T l (l.length / 2) (by omega)).2
  rw [← hl] at h
  rw [h]
  unfold KeysOk
  constructor
  · intro h i k a b hi hk hlt h1 h2
    have ha := hv a (List.mem_of_getElem? h1)
    have hb := hv b (List.mem_of_getElem? h2)
    have hil := (List.getElem?_eq_some_iff.1 h1).1
    have := h (i / 2) (k / 2) a b (by omega) (by omega) (by rw [show 2 * (i / 2) = i by omega]; exact h1) (by rw [show 2 * (k / 2) = k by omega]; exact h2)
    rw [Ne, norm_same T a b ha hb] at this
    simpa using this
  · intro h p q a b h1 h2 h3 h4
    have ha := hv a (List.mem_of_getElem? h3)
    have hb := hv b (List.mem_of_getElem? h4)
    rw [Ne, norm_same T a b ha hb, h (2 * p) (2 * q) a b (by omega) (by omega) (by omega) h3 h4]
    simp

end Go.EX
