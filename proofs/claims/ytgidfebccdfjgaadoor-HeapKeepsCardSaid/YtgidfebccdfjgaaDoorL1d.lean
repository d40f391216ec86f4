import Derived.Test.YtgidfebccdfjgaaDoorL1c
import Derived.Test.YtgidfebccdfjgaaDoorH5
set_option linter.unusedVariables false
set_option linter.unusedSimpArgs false
namespace Go.EX
def Has (W B : List Nat) (s : Nat → Nat) (wv : Nat → Nat → Nat) (j y : Nat) : Prop := bitAt B y = true ∧ hd W y = s j ∧ ∀ k, k < s j → W[y + 1 + k]? = some (wv j k)
theorem hd_congr {W W' : List Nat} {x y : Nat} (h : W'[x]? = W[y]?) : hd W' x = hd W y := by unfold hd; rw [h]
def cnt (g : Nat → Bool) (i : Nat) : Nat := ((List.range i).filter fun j => !g j).length
theorem cnt_succ (g : Nat → Bool) (i : Nat) : cnt g (i + 1) = cnt g i + if g i = true then 0 else 1 := by
  unfold cnt
  rw [List.range_succ, List.filter_append]
  cases h : g i <;> simp [h]
theorem cnt_le (g : Nat → Bool) (i : Nat) : cnt g i ≤ i := Nat.le_trans (List.length_filter_le _ _) (by simp)
structure K1 (W B : List Nat) (e : Nat) (L : List Nat) (s : Nat → Nat) (wv : Nat → Nat → Nat) (i : Nat) : Prop where
  hi : HI W B e
  len : W.length = 60000
  top : e ≤ 256 * i
  ln : L.length = i
  has : ∀ j y, L[j]? = some y → Has W B s wv j y
  up : L.Pairwise (· < ·)
structure KW (W B : List Nat) (e : Nat) (L : List Nat) (s : Nat → Nat) (wv : Nat → Nat → Nat) (i p k : Nat) : Prop where
  hi : HI W B e
  len : W.length = 60000
  top : e ≤ 256 * (i + 1)
  ln : L.length = i + 1
  has : ∀ j y, j < i → L[j]? = some y → Has W B s wv j y
  at_ : L[i]? = some p
  bit : bitAt B p = true
  size : hd W p = s i
  wd : ∀ l, l < k → W[p + 1 + l]? = some (wv i l)
  up : L.Pairwise (· < ·)
variable {W B : List Nat} {e : Nat} {L : List Nat} {s : Nat → Nat} {wv : Nat → Nat → Nat} {i p k : Nat}
theorem up_at {L : List Nat} (h : L.Pairwise (· < ·)) {i j y z : Nat} (hi : L[i]? = some y) (hj : L[j]? = some z) (hij : i < j) : y < z := by
  obtain ⟨h3, rfl⟩ := List.getElem?_eq_some_iff.1 hi
  obtain ⟨h4, rfl⟩ := List.getElem?_eq_some_iff.1 hj
  exact List.pairwise_iff_getElem.1 h i j h3 h4 hij
theorem K1.alloc (h : K1 W B e L s wv i) (hs : s i ≤ 255) (hi200 : i ≤ 200) :
    KW (setAll (W.set e (s i * 256 + 8)) (e + 1) (List.replicate (s i) 0)) (setBit B e) (e + s i + 1) (L ++ [e]) s wv i e 0 := by
  have hlen := h.len
  have htop := h.top
  have hn : s i + e < W.length := by omega
  have hl : e + 1 + (List.replicate (s i) 0).length ≤ (W.set e (s i * 256 + 8)).length := by simp; omega
  have hq := h.hi.q h.hi.top
  have hold : ∀ x, x < e → (setAll (W.set e (s i * 256 + 8)) (e + 1) (List.replicate (s i) 0))[x]? = W[x]? := by
    intro x hx
    rw [setAll_at _ _ _ _ hl, if_neg (by omega), List.getElem?_set_ne (by omega)]
  have hhd : ∀ x, x < e → hd (setAll (W.set e (s i * 256 + 8)) (e + 1) (List.replicate (s i) 0)) x = hd W x := fun x hx => hd_congr (hold x hx)
  have hlt : ∀ j y, L[j]? = some y → y < e := fun j y hj => by have := h.hi.inn y (h.has j y hj).1; omega
  refine ⟨h.hi.alloc (by decide) hn, by rw [setAll_len]; simpa using hlen, by omega, by simp [h.ln], fun j y hj hy => ?_, ?_, ?_, ?_, fun l hl => absurd hl (Nat.not_lt_zero l), ?_⟩
  · rw [List.getElem?_append_left (by rw [h.ln]; exact hj)] at hy
    obtain ⟨h1, h2, h3⟩ := h.has j y hy
    have hin := h.hi.inn y h1
    refine ⟨by rw [bitAt_set hq, h1]; rfl, by rw [hhd y (by omega)]; exact h2, fun k hk => ?_⟩
    rw [hold _ (by omega)]; exact h3 k hk
  · rw [List.getElem?_append_right (by rw [h.ln]; exact Nat.le_refl _), h.ln, Nat.sub_self]; rfl
  · rw [bitAt_set hq]; simp
  · unfold hd
    rw [setAll_at _ _ _ _ hl, if_neg (by omega), List.getElem?_set_self (by omega)]
    simp; omega
  · rw [List.pairwise_append]
    refine ⟨h.up, by simp, fun a ha b hb => ?_⟩
    simp at hb; subst hb
    obtain ⟨j, hj⟩ := List.getElem?_of_mem ha
    exact hlt j a hj
theorem KW.write (h : KW W B e L s wv i p k) (hk : k < s i) (hv : wv i k < 18446744073709551616) : KW (W.set (p + 1 + k) (wv i k)) B e L s wv i p (k + 1) := by
  have hin := h.hi.inn p h.bit
  have htop := h.hi.top
  have hsz := h.size
  refine ⟨h.hi.write h.bit (by rw [h.size]; exact hk) hv, by simpa using h.len, h.top, h.ln, fun j y hj hy => ?_, h.at_, h.bit, ?_, fun l hl => ?_, h.up⟩
  · obtain ⟨h1, h2, h3⟩ := h.has j y hj hy
    have hlt := up_at h.up hy h.at_ hj
    have hap := h.hi.apart y p h1 h.bit hlt
    refine ⟨h1, by rw [hd_set_ne (by omega)]; exact h2, fun l hl => ?_⟩
    rw [List.getElem?_set_ne (by omega)]; exact h3 l hl
  · rw [hd_set_ne (by omega)]; exact h.size
  · by_cases hlk : l = k
    · subst hlk
      rw [List.getElem?_set_self (by omega)]
    · rw [List.getElem?_set_ne (by omega)]; exact h.wd l (by omega)
theorem KW.done (h : KW W B e L s wv i p (s i)) : K1 W B e L s wv (i + 1) := by
  refine ⟨h.hi, h.len, h.top, h.ln, fun j y hy => ?_, h.up⟩
  have hj := (List.getElem?_eq_some_iff.1 hy).1
  rw [h.ln] at hj
  by_cases hji : j = i
  · subst hji
    obtain rfl : p = y := Option.some.inj (h.at_.symm.trans hy)
    exact ⟨h.bit, h.size, h.wd⟩
  · exact h.has j y (by omega) hy
structure K3 (W B : List Nat) (e : Nat) (L : List Nat) (s : Nat → Nat) (wv : Nat → Nat → Nat) (g : Nat → Bool) (n i to : Nat) : Prop where
  hi : HI W B e
  len : W.length = 60000
  top : e ≤ 256 * n
  ln : L.length = n
  toe : to ≤ e
  has : ∀ j y, L[j]? = some y → i ≤ j ∨ g j = false → Has W B s wv j y
  lo : ∀ j y, L[j]? = some y → j < i → g j = false → y + 1 + s j ≤ to
  up : ∀ j y, L[j]? = some y → i ≤ j → to ≤ y
  inc : ∀ j l y z, L[j]? = some y → L[l]? = some z → i ≤ j → j < l → y < z
  clear : Clear W B to
  num : (placesTo B to).length = cnt g i
variable {g : Nat → Bool} {n to : Nat}
theorem K1.start (h : K1 W B e L s wv n) : K3 W B e L s wv g n 0 0 :=
  ⟨h.hi, h.len, h.top, h.ln, Nat.zero_le _, fun j y hy _ => h.has j y hy, fun j y _ hj => absurd hj (Nat.not_lt_zero j), fun _ y _ _ => Nat.zero_le y, fun j l y z h1 h2 _ h3 => up_at h.up h1 h2 h3, fun j hj => absurd hj (Nat.not_lt_zero j), rfl⟩
theorem K3.skip (h : K3 W B e L s wv g n i to) (hg : g i = true) : K3 W B e L s wv g n (i + 1) to := by
  refine ⟨h.hi, h.len, h.top, h.ln, h.toe, fun j y hy hj => h.has j y hy (hj.imp (fun h => by omega) id), fun j y hy hj hgj => ?_, fun j y hy hj => h.up j y hy (by omega), fun j l y z h1 h2 h3 h4 => h.inc j l y z h1 h2 (by omega) h4, h.clear, ?_⟩
  · by_cases hji : j = i
    · subst hji; rw [hg] at hgj; cases hgj
    · exact h.lo j y hy (by omega) hgj
  · rw [h.num, cnt_succ, if_pos hg]; rfl
theorem K3.move (h : K3 W B e L s wv g n i to) (hg : g i = false) {f : Nat} (hf : L[i]? = some f) {B' : List Nat} (hB : Cleared B to (f + 1) B') :
    K3 (setAll W to ((W.drop f).take (hd W f + 1))) (setBit B' to) e (L.set i to) s wv g n (i + 1) (to + s i + 1) := by
  have hilt := (List.getElem?_eq_some_iff.1 hf).1
  obtain ⟨b1, b2, b3⟩ := h.has i f hf (.inl (Nat.le_refl _))
  have htf := h.up i f hf (Nat.le_refl _)
  have hin := h.hi.inn f b1
  have htop := h.hi.top
  obtain ⟨hHI, hbit⟩ := h.hi.move b1 htf h.clear hB
  have hL : ((W.drop f).take (hd W f + 1)).length = hd W f + 1 := by simp; omega
  have hl : to + ((W.drop f).take (hd W f + 1)).length ≤ W.length := by rw [hL]; omega
  have hold : ∀ x, (x < to ∨ to + s i + 1 ≤ x) → (setAll W to ((W.drop f).take (hd W f + 1)))[x]? = W[x]? := by
    intro x hx
    rw [setAll_at _ _ _ _ hl, if_neg (by rw [hL]; omega)]
  have hnew : ∀ x, x ≤ s i → (setAll W to ((W.drop f).take (hd W f + 1)))[to + x]? = W[f + x]? := by
    intro x hx
    rw [setAll_at _ _ _ _ hl, if_pos (by rw [hL]; omega), List.getElem?_take, if_pos (by omega), List.getElem?_drop]
    congr 1; omega
  have hhd : ∀ x, (x < to ∨ to + s i + 1 ≤ x) → hd (setAll W to ((W.drop f).take (hd W f + 1))) x = hd W x := fun x hx => hd_congr (hold x hx)
  have hht : hd (setAll W to ((W.drop f).take (hd W f + 1))) to = s i := by
    rw [← b2]
    exact hd_congr (x := to) (y := f) (hnew 0 (Nat.zero_le _))
  have hset : ∀ j y, (L.set i to)[j]? = some y → (j = i ∧ y = to) ∨ (j ≠ i ∧ L[j]? = some y) := by
    intro j y hy
    by_cases hji : j = i
    · subst hji
      rw [List.getElem?_set_self hilt] at hy
      exact .inl ⟨rfl, (Option.some.inj hy).symm⟩
    · rw [List.getElem?_set_ne (Ne.symm hji)] at hy
      exact .inr ⟨hji, hy⟩
  have hbt : bitAt (setBit B' to) to = true := by rw [hbit]; simp
  have hfar : ∀ j y, L[j]? = some y → i < j → f + s i + 1 ≤ y ∧ bitAt B y = true := by
    intro j y hy hj
    have hby := (h.has j y hy (.inl (by omega))).1
    have := h.hi.apart f y b1 hby (h.inc i j f y hf hy (Nat.le_refl _) hj)
    exact ⟨by omega, hby⟩
  have hbit' : ∀ x, x < to → bitAt (setBit B' to) x = bitAt B x := by
    intro x hx
    rw [hbit]
    have h1 : ¬ to ≤ x := by omega
    have h2 : ¬ x = to := by omega
    simp [h1, h2]
  refine ⟨hHI, by rw [setAll_len]; exact h.len, h.top, by rw [List.length_set]; exact h.ln, by omega, fun j y hy hj => ?_, fun j y hy hj hgj => ?_, fun j y hy hj => ?_, fun j l y z h1 h2 h3 h4 => ?_, ?_, ?_⟩
  · rcases hset j y hy with ⟨rfl, rfl⟩ | ⟨hji, hy⟩
    · refine ⟨hbt, hht, fun k hk => ?_⟩
      have := hnew (1 + k) (by omega)
      rw [← Nat.add_assoc, ← Nat.add_assoc] at this
      rw [this]; exact b3 k hk
    · rcases Nat.lt_or_ge j i with hlt | hge
      · have hgj : g j = false := hj.resolve_left (by omega)
        obtain ⟨c1, c2, c3⟩ := h.has j y hy (.inr hgj)
        have hlo := h.lo j y hy hlt hgj
        refine ⟨by rw [hbit' y (by omega)]; exact c1, by rw [hhd y (.inl (by omega))]; exact c2, fun k hk => ?_⟩
        rw [hold _ (.inl (by omega))]; exact c3 k hk
      · obtain ⟨hy2, _⟩ := hfar j y hy (by omega)
        obtain ⟨c1, c2, c3⟩ := h.has j y hy (.inl (by omega))
        have h1 : ¬ y < f + 1 := by omega
        refine ⟨by rw [hbit, c1]; simp [h1], by rw [hhd y (.inr (by omega))]; exact c2, fun k hk => ?_⟩
        rw [hold _ (.inr (by omega))]; exact c3 k hk
  · rcases hset j y hy with ⟨rfl, rfl⟩ | ⟨hji, hy⟩
    · omega
    · have := h.lo j y hy (by omega) hgj; omega
  · rcases hset j y hy with ⟨rfl, rfl⟩ | ⟨hji, hy⟩
    · omega
    · have := (hfar j y hy (by omega)).1; omega
  · rcases hset j y h1 with ⟨rfl, rfl⟩ | ⟨hji, hy⟩
    · omega
    · rcases hset l z h2 with ⟨rfl, rfl⟩ | ⟨hli, hz⟩
      · omega
      · exact h.inc j l y z hy hz (by omega) h4
  · intro y hy hby
    rcases Nat.lt_trichotomy y to with hlt | rfl | hgt
    · rw [hbit' y hlt] at hby
      have := h.clear y hlt hby
      rw [hhd y (.inl hlt)]; omega
    · rw [hht]; omega
    · have := hHI.apart to y hbt hby hgt
      rw [hht] at this
      omega
  · have h1 : placesTo (setBit B' to) (to + s i + 1) = placesTo (setBit B' to) (to + 1) := placesTo_none (by omega) fun y h2 h3 => by
      cases hby : bitAt (setBit B' to) y with
      | false => rfl
      | true =>
        have := hHI.apart to y hbt hby (by omega)
        rw [hht] at this
        omega
    have h2 : placesTo (setBit B' to) to = placesTo B to := by
      unfold placesTo
      refine List.filter_congr fun x hx => ?_
      exact hbit' x (List.mem_range.1 hx)
    rw [h1, placesTo_bit hbt, h2, List.length_append, h.num, cnt_succ, if_neg (by rw [hg]; decide)]
    rfl
theorem K3.cut (h : K3 W B e L s wv g n n to) {B' : List Nat} (hB : Cleared B to e B') :
    HI W B' to ∧ (∀ j y, L[j]? = some y → g j = false → Has W B' s wv j y) ∧ (placesTo B' to).length = cnt g n := by
  have hbit' : ∀ x, x < to → bitAt B' x = bitAt B x := by
    intro x hx
    rw [hB.bit]
    have h1 : ¬ to ≤ x := by omega
    simp [h1]
  refine ⟨h.hi.cut h.toe h.clear hB, fun j y hy hgj => ?_, ?_⟩
  · obtain ⟨c1, c2, c3⟩ := h.has j y hy (.inr hgj)
    have hj := (List.getElem?_eq_some_iff.1 hy).1
    have hlo := h.lo j y hy (by have := h.ln; omega) hgj
    exact ⟨by rw [hbit' y (by omega)]; exact c1, c2, c3⟩
  · have h2 : placesTo B' to = placesTo B to := by
      unfold placesTo
      refine List.filter_congr fun x hx => ?_
      exact hbit' x (List.mem_range.1 hx)
    rw [h2, h.num]
end Go.EX

