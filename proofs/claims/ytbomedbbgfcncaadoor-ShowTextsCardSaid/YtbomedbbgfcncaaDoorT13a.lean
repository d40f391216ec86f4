import Derived.Test.YtbomedbbgfcncaaDoorT11
import Derived.Test.YtbomedbbgfcncaaDoorT4
set_option linter.unusedVariables false
set_option linter.unusedSimpArgs false
namespace Go.EX
section
variable {code : Nat → Option XFun} {ext : Calls'}
abbrev cellsR_two (o : Obj) : List AV := [.imm (.val (.int .u8 o.k)), strV o.s, .imm o.l.iv, int64 o.room, int64 o.fn]
def memR_two (sv : IV) (o : Obj) (b : ByteArray) (l : Bool) : Mem := [.rich [.imm sv, .osl 3 0 1 b.size none, .imm (blI l)], .dead, .rich (cellsR_two o), .text (rowOfS b)]
set_option maxHeartbeats 4000000 in
theorem itemsR_two (h98 : code 98 = some x98S) {sv : IV} {inn : Int} (hinn : 0 ≤ inn ∧ inn ≤ 100) {f : Val → ByteArray × Bool → ByteArray × Bool} {o : Obj} (hI : ItemR code ext sv (inn + 1) f o.l.xs) (hl : o.l.xs.length ≤ 1000000) (en : ByteArray) (c0 : ByteArray) (l0 : Bool) (h0 : 0 < c0.size) (hB0 : c0.size ≤ 4096) (s0 : St)
    (hs0 : s0.tidy [0, 2, 4, 7, 8] = ⟨2, [(0, .optr 0 0), (2, int64 inn), (4, .optr 2 0), (7, strV en), (8, int64 0)], memR_two sv o c0 l0⟩) :
    ∃ e s', den code ext (.loop [0, 2, 4, 7, 8] x99L1) s0 = some (e, s') ∧ e ≠ .normal ∧
      (e = .exit 0 ∧ ∃ (j : Nat) (y : Bool) (b : ByteArray) (l : Bool), itemsR f (decide (o.k = 5)) o.l.xs 0 (c0, l0) = (b, l) ∧ 0 < b.size ∧ b.size ≤ 4096 ∧ s' = ⟨2, [(0, .optr 0 0), (2, int64 inn), (4, .optr 2 0), (7, strV en), (8, int64 (j : Nat)), (26, avb y)], memR_two sv o b l⟩) := by
  have hr := o.l.ok
  have hlen := reads_len hr
  refine loop_rule (fun n s => ∃ (i : Nat) (b : ByteArray) (l : Bool), i + n = o.l.xs.length ∧ 0 < b.size ∧ b.size ≤ 4096 ∧ itemsR f (decide (o.k = 5)) o.l.xs 0 (c0, l0) = itemsR f (decide (o.k = 5)) (o.l.xs.drop i) i (b, l) ∧
    s.tidy [0, 2, 4, 7, 8] = ⟨2, [(0, .optr 0 0), (2, int64 inn), (4, .optr 2 0), (7, strV en), (8, int64 (i : Nat))], memR_two sv o b l⟩) _ ?_ o.l.xs.length _ ⟨0, c0, l0, by omega, h0, hB0, by simp, hs0⟩
  rintro n s ⟨i, b, l, hi, hb, hbB, hg, hst⟩
  rw [hst, hg]
  have hlt0 : (o.l.xs.length : Int) ≤ 9223372036854775807 := by omega
  by_cases hlt : i < o.l.xs.length
  · have hx : o.l.xs[i]? = some o.l.xs[i] := List.getElem?_eq_getElem hlt
    have hmem : o.l.xs[i] ∈ o.l.xs := List.getElem_mem hlt
    obtain ⟨r2, o2, cap, hiv, hc, hcut, hget⟩ := reads_pos hr hx
    rw [List.drop_eq_getElem_cons hlt, itemsR] at *
    generalize o.l.xs[i] = v at hget hmem hg
    simp only [tVal] at hget
    have e1 : IntKind.wrap .i64 ((i : Int) + 1) = (i : Int) + 1 := wrapI64 (by omega) (by omega)
    have e2 : IntKind.wrap .i64 (inn + 1) = inn + 1 := wrapI64 (by omega) (by omega)
    simp only [memR_two, cellsR_two, hiv]
    generalize o.l.iv = liv at *
    cases l with
    | true =>
      refine ⟨.exit 0, _, by simp -implicitDefEqProofs [x99L1, hlt]; rfl, .inr ⟨by simp, rfl, i, false, b, true, by simp, hb, hbB, by simp only [memR_two, cellsR_two]⟩⟩
    | false =>
      rw [if_neg (by simp)]
      have hm2 := tmod2 i
      by_cases hk : o.k = 5 ∧ i % 2 = 1
      · have hw := put_one (ext := ext) h98 sv b keyT false hb hbB (by decide)
        have q0 := putR_pos (x := keyT) (l := false) hb
        have q1 := putR_size (x := keyT) (l := false) hbB
        obtain ⟨hk5, hodd⟩ := hk
        rw [hodd] at hm2
        simp only [hk5, decide_true, hodd, and_self, if_true] at *
        generalize putR (b, false) keyT = p at *
        obtain ⟨b1, l1⟩ := p
        obtain ⟨two, hv⟩ := hI.call v hmem b1 l1 q0 q1
        have hp := hI.pos v hmem (b1, l1) q0
        have hs := hI.size v hmem (b1, l1) q1
        generalize f v (b1, l1) = p2 at *
        obtain ⟨b2, l2⟩ := p2
        cases l1 <;> cases two <;>
        · simp only [rOut, rOne, rTwo, Bool.not_true, Bool.not_false, Bool.false_eq_true, if_false, if_true] at hw hv ⊢
          refine ⟨.normal, _, by simp -implicitDefEqProofs [-intBin, q_lss, q_add, q_eql, x99L1, hlt, hget, hm2, hw, hv, e1, e2]; rfl, .inl ⟨rfl, n - 1, by omega, i + 1, b2, l2, by omega, hp, hs, rfl, by simp -implicitDefEqProofs⟩⟩
      · by_cases h00 : 0 < i
        · have hw := put_one (ext := ext) h98 sv b nextT false hb hbB (by decide)
          have q0 := putR_pos (x := nextT) (l := false) hb
          have q1 := putR_size (x := nextT) (l := false) hbB
          have h00' : (0 : Int) < i := by omega
          have hno : ¬ (decide (o.k = 5) = true ∧ i % 2 = 1) := by simpa using hk
          rw [if_neg hno, if_pos h00]
          generalize putR (b, false) nextT = p at *
          obtain ⟨b1, l1⟩ := p
          obtain ⟨two, hv⟩ := hI.call v hmem b1 l1 q0 q1
          have hp := hI.pos v hmem (b1, l1) q0
          have hs := hI.size v hmem (b1, l1) q1
          generalize f v (b1, l1) = p2 at *
          obtain ⟨b2, l2⟩ := p2
          by_cases hk5 : o.k = 5
          · have heven : i % 2 = 0 := by have : ¬ i % 2 = 1 := fun h => hk ⟨hk5, h⟩; omega
            rw [heven] at hm2
            have h01 : 0 < i := by omega
            cases l1 <;> cases two <;>
            · simp only [rOut, rOne, rTwo, Bool.not_true, Bool.not_false, Bool.false_eq_true, if_false, if_true] at hw hv ⊢
              refine ⟨.normal, _, by simp -implicitDefEqProofs [-intBin, q_lss, q_gtr, q_add, q_eql, x99L1, hlt, hget, hk5, hm2, hw, hv, e1, e2, h01, h00']; rfl, .inl ⟨rfl, n - 1, by omega, i + 1, b2, l2, by omega, hp, hs, rfl, by simp -implicitDefEqProofs [hk5]⟩⟩
          · have h01 : 0 < i := by omega
            cases l1 <;> cases two <;>
            · simp only [rOut, rOne, rTwo, Bool.not_true, Bool.not_false, Bool.false_eq_true, if_false, if_true] at hw hv ⊢
              refine ⟨.normal, _, by simp -implicitDefEqProofs [-intBin, q_lss, q_gtr, q_add, q_eql, x99L1, hlt, hget, hk5, hw, hv, e1, e2, h01, h00']; rfl, .inl ⟨rfl, n - 1, by omega, i + 1, b2, l2, by omega, hp, hs, rfl, by simp -implicitDefEqProofs [hk5]⟩⟩
        · have h00' : ¬ (0 : Int) < i := by omega
          have hi0 : i = 0 := by omega
          subst hi0
          obtain ⟨two, hv⟩ := hI.call v hmem b false hb hbB
          have hp := hI.pos v hmem (b, false) hb
          have hs := hI.size v hmem (b, false) hbB
          have hno : ¬ (decide (o.k = 5) = true ∧ 0 % 2 = 1) := by simp
          rw [if_neg hno, if_neg h00]
          simp only [Nat.zero_mul, Nat.add_zero] at hget
          have hm0 : intBin .rem .i64 0 2 = some (.int .i64 0) := rfl
          have e10 : IntKind.wrap .i64 1 = 1 := rfl
          generalize f v (b, false) = p2 at *
          obtain ⟨b2, l2⟩ := p2
          by_cases hk5 : o.k = 5 <;> cases two <;>
          · simp only [rOut, rOne, rTwo, Bool.not_true, Bool.not_false, Bool.false_eq_true, if_false, if_true] at hv ⊢
            refine ⟨.normal, _, by simp -implicitDefEqProofs [-intBin, q_lss, q_gtr, q_add, q_eql, x99L1, hlt, hget, hk5, hm0, hv, e10, e2]; rfl, .inl ⟨rfl, n - 1, by omega, 1, b2, l2, by omega, hp, hs, rfl, by simp -implicitDefEqProofs [hk5]⟩⟩
  · have hie : i = o.l.xs.length := by omega
    subst hie
    rw [List.drop_eq_nil_of_le (Nat.le_refl _), itemsR]
    simp only [memR_two, cellsR_two]
    refine ⟨.exit 0, _, by simp -implicitDefEqProofs [x99L1, hlen]; rfl, .inr ⟨by simp, rfl, o.l.xs.length, false, b, l, rfl, hb, hbB, by simp only [memR_two, cellsR_two]⟩⟩
end
end Go.EX

