import Derived.Test.YtgidfebccdfjgaaDoorH7
set_option linter.unusedVariables false
set_option linter.unusedSimpArgs false
namespace Go.EX
theorem hd_set_ne {W : List Nat} {i j v : Nat} (h : i ≠ j) : hd (W.set i v) j = hd W j := by
  unfold hd; rw [List.getElem?_set_ne h]
theorem hd_setAll {W L : List Nat} {t j : Nat} (hl : t + L.length ≤ W.length) : hd (setAll W t L) j = if t ≤ j ∧ j < t + L.length then hd L (j - t) else hd W j := by
  unfold hd
  rw [setAll_at _ _ _ _ hl]
  split <;> rfl
theorem mem_setAll {L W : List Nat} {t : Nat} {x : Nat} (hx : x ∈ setAll W t L) : x ∈ W ∨ x ∈ L := by
  induction L generalizing W t with
  | nil => exact .inl hx
  | cons y L ih =>
    rcases ih hx with h | h
    · rcases List.mem_or_eq_of_mem_set h with h | rfl
      · exact .inl h
      · exact .inr (List.mem_cons_self ..)
    · exact .inr (List.mem_cons_of_mem _ h)
theorem bitAt_zero (k j : Nat) : bitAt (List.replicate k 0) j = false := by
  unfold bitAt
  rw [List.getElem?_replicate]
  split <;> simp
theorem HI.new (n : Nat) (h1 : 1 ≤ n) (h2 : n ≤ 1048576) : HI (List.replicate n 0) (List.replicate (n / 64 + 1) 0) 0 := by
  refine ⟨by simpa using h1, by simpa using h2, by simp, by simp, fun w hw => ?_, fun b hb => ?_, fun i hi => ?_, fun i j hi => ?_⟩
  · rw [(List.mem_replicate.1 hw).2]; decide
  · rw [(List.mem_replicate.1 hb).2]; decide
  · rw [bitAt_zero] at hi; cases hi
  · rw [bitAt_zero] at hi; cases hi
variable {W B : List Nat} {e : Nat}
theorem HI.q (h : HI W B e) {i : Nat} (hi : i ≤ W.length) : i / 64 < B.length := by rw [h.bl]; omega
theorem HI.write (h : HI W B e) {i k v : Nat} (hi : bitAt B i = true) (hk : k < hd W i) (hv : v < 18446744073709551616) : HI (W.set (i + 1 + k) v) B e := by
  have hne : ∀ j, bitAt B j = true → i + 1 + k ≠ j := by
    rintro j hj rfl
    have := h.apart i (i + 1 + k) hi hj (by omega)
    omega
  refine ⟨by simpa using h.pos, by simpa using h.bd, by simpa using h.bl, by simpa using h.top, fun w hw => ?_, h.blt, fun j hj => ?_, fun j l hj hl hjl => ?_⟩
  · rcases List.mem_or_eq_of_mem_set hw with h1 | rfl
    · exact h.wlt w h1
    · exact hv
  · rw [hd_set_ne (hne j hj)]; exact h.inn j hj
  · rw [hd_set_ne (hne j hj)]; exact h.apart j l hj hl hjl
theorem HI.alloc (h : HI W B e) {n k : Nat} (hk : k < 256) (hn : n + e < W.length) : HI (setAll (W.set e (n * 256 + k)) (e + 1) (List.replicate n 0)) (setBit B e) (e + n + 1) := by
  have htop := h.top
  have hbd := h.bd
  have hl : e + 1 + (List.replicate n 0).length ≤ (W.set e (n * 256 + k)).length := by simp; omega
  have hhd : ∀ j, j < e → hd (setAll (W.set e (n * 256 + k)) (e + 1) (List.replicate n 0)) j = hd W j := by
    intro j hj
    rw [hd_setAll hl, if_neg (by omega), hd_set_ne (by omega)]
  have hhe : hd (setAll (W.set e (n * 256 + k)) (e + 1) (List.replicate n 0)) e = n := by
    rw [hd_setAll hl, if_neg (by omega)]
    unfold hd
    rw [List.getElem?_set_self (by omega)]
    show (n * 256 + k) / 256 = n
    omega
  have hbit := bitAt_set (h.q htop)
  have old : ∀ j, bitAt B j = true → j < e := fun j hj => by have := h.inn j hj; omega
  refine ⟨by rw [setAll_len]; simpa using h.pos, by rw [setAll_len]; simpa using h.bd, by rw [setAll_len]; simpa [setBit] using h.bl, by rw [setAll_len]; simp; omega, fun w hw => ?_, setBit_lt h.blt, fun j hj => ?_, fun j l hj hl hjl => ?_⟩
  · rcases mem_setAll hw with hw | hw
    · rcases List.mem_or_eq_of_mem_set hw with h1 | rfl
      · exact h.wlt w h1
      · omega
    · rw [(List.mem_replicate.1 hw).2]; decide
  · rw [hbit] at hj
    rcases Bool.or_eq_true_iff.1 hj with hj | hj
    · rw [hhd j (old j hj)]; have := h.inn j hj; omega
    · have : j = e := by simpa using hj
      subst this
      rw [hhe]; omega
  · rw [hbit] at hj hl
    rcases Bool.or_eq_true_iff.1 hj with hj1 | hj1
    · rw [hhd j (old j hj1)]
      rcases Bool.or_eq_true_iff.1 hl with hl1 | hl1
      · exact h.apart j l hj1 hl1 hjl
      · have : l = e := by simpa using hl1
        rw [this]
        exact h.inn j hj1
    · have : j = e := by simpa using hj1
      subst this
      rcases Bool.or_eq_true_iff.1 hl with hl1 | hl1
      · have := old l hl1; omega
      · have : l = j := by simpa using hl1
        omega
def Clear (W B : List Nat) (a : Nat) : Prop := ∀ j, j < a → bitAt B j = true → j + 1 + hd W j ≤ a
theorem last_bit (B : List Nat) : ∀ (a : Nat), (∃ j, j < a ∧ bitAt B j = true) → ∃ j, j < a ∧ bitAt B j = true ∧ NoBits B (j + 1) a := by
  intro a
  induction a with
  | zero => rintro ⟨j, h, _⟩; omega
  | succ a ih =>
    rintro ⟨j, h, hb⟩
    cases hq : bitAt B a with
    | true => exact ⟨a, by omega, hq, fun i h1 h2 => by omega⟩
    | false =>
      have : j ≠ a := by rintro rfl; rw [hq] at hb; cases hb
      obtain ⟨l, h1, h2, h3⟩ := ih ⟨j, by omega, hb⟩
      refine ⟨l, by omega, h2, fun i g1 g2 => ?_⟩
      rcases Nat.lt_or_ge i a with g | g
      · exact h3 i g1 g
      · obtain rfl : i = a := by omega
        exact hq
theorem HI.clear_iff (h : HI W B e) {a : Nat} (ha : a ≤ e) : Clear W B a ↔ ¬ (0 < (a : Int) ∧ ∃ j : Nat, (j : Int) < min (a : Int) e ∧ bitAt B j = true ∧ NoBits B (j + 1) (min (a : Int) e).toNat ∧ (a : Int) ≤ j + hd W j) := by
  have hm : (min (a : Int) e).toNat = a := by omega
  have hm2 : min (a : Int) e = a := by omega
  rw [hm, hm2]
  constructor
  · rintro hc ⟨_, j, h1, h2, _, h4⟩
    have := hc j (by omega) h2
    omega
  · intro hn j hj hb
    obtain ⟨l, h1, h2, h3⟩ := last_bit B a ⟨j, hj, hb⟩
    have h5 : ¬ ((a : Int) ≤ l + hd W l) := fun hh => hn ⟨by omega, l, by omega, h2, h3, hh⟩
    rcases Nat.lt_trichotomy j l with g | g | g
    · have := h.apart j l hb h2 g; omega
    · subst g; omega
    · rw [h3 j (by omega) hj] at hb; cases hb
theorem HI.cut (h : HI W B e) {a : Nat} (ha : a ≤ e) (hc : Clear W B a) {B' : List Nat} (hB : Cleared B a e B') : HI W B' a := by
  have hbit : ∀ j, bitAt B' j = true → bitAt B j = true ∧ j < a := by
    intro j hj
    rw [hB.bit, Bool.and_eq_true] at hj
    refine ⟨hj.1, ?_⟩
    have h1 := h.inn j hj.1
    have h2 := hj.2
    simp at h2
    omega
  refine ⟨h.pos, h.bd, by rw [hB.len]; exact h.bl, Nat.le_trans ha h.top, h.wlt, hB.blt, fun j hj => ?_, fun j l hj hl => h.apart j l (hbit j hj).1 (hbit l hl).1⟩
  obtain ⟨h1, h2⟩ := hbit j hj
  exact hc j h2 h1
theorem HI.move (h : HI W B e) {i t : Nat} (hi : bitAt B i = true) (ht : t ≤ i) (hc : Clear W B t) {B' : List Nat} (hB : Cleared B t (i + 1) B') :
    HI (setAll W t ((W.drop i).take (hd W i + 1))) (setBit B' t) e ∧ (∀ j, bitAt (setBit B' t) j = ((bitAt B j && !(decide (t ≤ j) && decide (j < i + 1))) || decide (j = t))) := by
  have htop := h.top
  have hin := h.inn i hi
  have hL : ((W.drop i).take (hd W i + 1)).length = hd W i + 1 := by simp; omega
  have hl : t + ((W.drop i).take (hd W i + 1)).length ≤ W.length := by rw [hL]; omega
  have hhd : ∀ j, (j < t ∨ t + hd W i + 1 ≤ j) → hd (setAll W t ((W.drop i).take (hd W i + 1))) j = hd W j := by
    intro j hj
    rw [hd_setAll hl, if_neg (by rw [hL]; omega)]
  have hht : hd (setAll W t ((W.drop i).take (hd W i + 1))) t = hd W i := by
    rw [hd_setAll hl, if_pos (by rw [hL]; omega), Nat.sub_self]
    unfold hd
    rw [List.getElem?_take, if_pos (by omega), List.getElem?_drop, Nat.add_zero]
  have hbit : ∀ j, bitAt (setBit B' t) j = ((bitAt B j && !(decide (t ≤ j) && decide (j < i + 1))) || decide (j = t)) := by
    intro j
    rw [bitAt_set (by rw [hB.len]; exact h.q (by omega)), hB.bit]
  have cases_ : ∀ j, bitAt (setBit B' t) j = true → (bitAt B j = true ∧ j < t) ∨ j = t ∨ (bitAt B j = true ∧ i + 1 + hd W i ≤ j) := by
    intro j hj
    rw [hbit] at hj
    rcases Bool.or_eq_true_iff.1 hj with hj | hj
    · rw [Bool.and_eq_true] at hj
      have h2 := hj.2
      simp at h2
      rcases Nat.lt_or_ge j t with g | g
      · exact .inl ⟨hj.1, g⟩
      · exact .inr (.inr ⟨hj.1, h.apart i j hi hj.1 (by omega)⟩)
    · exact .inr (.inl (by simpa using hj))
  refine ⟨⟨by rw [setAll_len]; exact h.pos, by rw [setAll_len]; exact h.bd, by rw [setAll_len]; simpa [setBit, hB.len] using h.bl, by rw [setAll_len]; exact htop, fun w hw => ?_, setBit_lt hB.blt, fun j hj => ?_, fun j l hj hl' hjl => ?_⟩, hbit⟩
  · rcases mem_setAll hw with hw | hw
    · exact h.wlt w hw
    · exact h.wlt w (List.mem_of_mem_drop (List.mem_of_mem_take hw))
  · rcases cases_ j hj with ⟨h1, h2⟩ | rfl | ⟨h1, h2⟩
    · rw [hhd j (.inl h2)]; exact h.inn j h1
    · rw [hht]; omega
    · rw [hhd j (.inr (by omega))]; exact h.inn j h1
  · rcases cases_ j hj with ⟨h1, h2⟩ | rfl | ⟨h1, h2⟩
    · rw [hhd j (.inl h2)]
      have := hc j h2 h1
      rcases cases_ l hl' with ⟨g1, g2⟩ | rfl | ⟨g1, g2⟩
      · exact h.apart j l h1 g1 hjl
      · exact this
      · omega
    · rw [hht]
      rcases cases_ l hl' with ⟨g1, g2⟩ | rfl | ⟨g1, g2⟩
      · omega
      · omega
      · omega
    · rw [hhd j (.inr (by omega))]
      rcases cases_ l hl' with ⟨g1, g2⟩ | rfl | ⟨g1, g2⟩
      · omega
      · omega
      · exact h.apart j l h1 g1 hjl
end Go.EX

