import Derived.Test.YtgidfebccdfjgaaDoorL1a
import Derived.Test.YtgidfebccdfjgaaDoorH2c
set_option linter.unusedVariables false
set_option linter.unusedSimpArgs false
namespace Go.EX
def hd (W : List Nat) (i : Nat) : Nat := (W[i]?).getD 0 / 256
structure HI (W B : List Nat) (e : Nat) : Prop where
  pos : 1 ≤ W.length
  bd : W.length ≤ 1048576
  bl : B.length = W.length / 64 + 1
  top : e ≤ W.length
  wlt : ∀ w ∈ W, w < 18446744073709551616
  blt : ∀ b ∈ B, b < 18446744073709551616
  inn : ∀ i, bitAt B i = true → i + 1 + hd W i ≤ e
  apart : ∀ i j, bitAt B i = true → bitAt B j = true → i < j → i + 1 + hd W i ≤ j
variable {W B : List Nat} {e : Nat}
theorem HI.word (h : HI W B e) {i : Nat} (hi : i ≤ W.length) : ∃ b, B[i / 64]? = some b ∧ b < 18446744073709551616 ∧ bitAt B i = b.testBit (i % 64) := by
  have hlt : i / 64 < B.length := by rw [h.bl]; omega
  refine ⟨B[i / 64], List.getElem?_eq_getElem hlt, h.blt _ (List.getElem_mem _), ?_⟩
  unfold bitAt
  rw [List.getElem?_eq_getElem hlt]; rfl
theorem HI.obj (h : HI W B e) {i : Nat} (hi : bitAt B i = true) : ObjAt W B e i (hd W i) := by
  have h1 := h.inn i hi
  have h2 := h.top
  have hlt : i < W.length := by omega
  refine ⟨h1, h2, h.bd, ?_, W[i], List.getElem?_eq_getElem hlt, ?_, h.wlt _ (List.getElem_mem _)⟩
  · obtain ⟨b, g1, g2, g3⟩ := h.word (i := i) (by omega)
    exact ⟨b, g1, g2, by rw [← g3]; exact hi⟩
  · unfold hd
    rw [List.getElem?_eq_getElem hlt]; rfl
theorem HI.none (h : HI W B e) {i : Int} (hi : 0 ≤ i → bitAt B i.toNat = false) : NoObj B e i := by
  intro h0 h1
  have h2 := h.top
  obtain ⟨b, g1, g2, g3⟩ := h.word (i := i.toNat) (by omega)
  exact ⟨b, g1, g2, by rw [← g3]; exact hi h0⟩
end Go.EX

