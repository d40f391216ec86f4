import Derived.Test.YtbomedbbgfcncaaDoorT14
set_option maxHeartbeats 4000000
set_option linter.unusedVariables false
set_option linter.unusedSimpArgs false
namespace Go.EX
section
variable {code : Nat → Option XFun} {ext : Calls'}
theorem rrow_one_b (h98 : code 98 = some x98S) (h99 : code 99 = some x99) {sv : IV} {inn : Int} (hinn : 0 ≤ inn ∧ inn ≤ 100) {f : Val → ByteArray × Bool → ByteArray × Bool} {o : Obj} (hI : ItemR code ext sv (inn + 1) f o.l.xs) (hl : o.l.xs.length ≤ 1000000) (b : ByteArray) (l : Bool) (hb : 0 < b.size) (hbB : b.size ≤ 4096) (hk5 : ¬ o.k = 5) :
    ∃ two, callW code ext 99 [.optr 0 0, .agg [.imm (.val (.int .u8 o.k)), strV o.s, .imm o.l.iv, int64 o.room, int64 o.fn], int64 inn] (rOne sv b l) = some (.tup [], rOut two sv (rowR f o (b, l))) := by
  have hlen := reads_len o.l.ok
  have hm2 := tmod2 o.l.xs.length
  have hkd : decide (o.k = 5) = false := by simpa using hk5
  rw [callW_fun code ext h99]
  unfold rowR
  have hw := put_one (ext := ext) h98 sv b openL l hb hbB (by decide)
  have q0 := putR_pos (x := openL) (l := l) hb
  have q1 := putR_size (x := openL) (l := l) hbB
  have hL2 := fun c0 l0 h1 h2 s0 hs => itemsR_two (inn := inn) h98 hinn hI hl endL c0 l0 h1 h2 s0 hs
  have hL1 := fun s0 hs => itemsR_none (code := code) (ext := ext) (sv := sv) (inn := inn) hl endL b s0 hs
  unfold x99
  generalize x99L1 = L at *
  simp only [hkd, Bool.false_eq_true, if_false, false_and]
  simp only [hkd, Bool.false_eq_true, if_false, false_and] at hL2
  cases hlg : (putR (b, l) openL).2 with
  | true =>
    have hp := putR_long hlg
    rw [hp] at hw ⊢
    rw [itemsR_true]
    obtain ⟨e, s', lp, _, rfl, y, rfl⟩ := hL1 ⟨2, [(0, .optr 0 0), (2, int64 inn), (4, .optr 2 0), (7, strV endL), (8, int64 0)], memL sv o b⟩ (by simp only [memL, cellsR_two]; simp -implicitDefEqProofs)
    have hw1 := put_one (ext := ext) h98 sv b lackT true hb hbB (by decide)
    have hw2 := put_one (ext := ext) h98 sv b endL true hb hbB (by decide)
    refine ⟨false, ?_⟩
    simp only [putR_true, ite_self] at hw1 hw2 ⊢
    simp only [rOut, rOne, memL, cellsR_two, Bool.not_true, Bool.false_eq_true, if_false] at lp hw hw1 hw2 ⊢
    simp -implicitDefEqProofs [-intBin, q_eql, hlen, hw, lp, hw2, hk5]
  | false =>
    generalize putR (b, l) openL = p at *
    obtain ⟨b1, l0⟩ := p
    simp only at hlg
    subst hlg
    obtain ⟨e, s', lp, _, rfl, j, y, c1, l1, hq, g0, g1, rfl⟩ := hL2 b1 false q0 q1 ⟨2, [(0, .optr 0 0), (2, int64 inn), (4, .optr 2 0), (7, strV endL), (8, int64 0)], memR_two sv o b1 false⟩ (by simp only [memR_two, cellsR_two]; simp -implicitDefEqProofs)
    rw [hq]
    refine ⟨true, ?_⟩
    have hw2 := put_one (ext := ext) h98 sv c1 endL l1 g0 g1 (by decide)
    generalize putR (c1, l1) endL = p3 at *
    obtain ⟨c3, l3⟩ := p3
    cases l3 <;>
    · simp only [rOut, rOne, rTwo, memR_two, cellsR_two, Bool.not_true, Bool.not_false, Bool.false_eq_true, if_false, if_true] at lp hw hw2 ⊢
      simp -implicitDefEqProofs [-intBin, q_eql, hlen, hw, lp, hw2, hk5]
theorem rrow_nil_b (h98 : code 98 = some x98S) (h99 : code 99 = some x99) {sv : IV} {inn : Int} (hinn : 0 ≤ inn ∧ inn ≤ 100) {f : Val → ByteArray × Bool → ByteArray × Bool} {o : Obj} (hI : ItemR code ext sv (inn + 1) f o.l.xs) (hl : o.l.xs.length ≤ 1000000) (hk5 : ¬ o.k = 5) :
    callW code ext 99 [.optr 0 0, .agg [.imm (.val (.int .u8 o.k)), strV o.s, .imm o.l.iv, int64 o.room, int64 o.fn], int64 inn] (rNil sv false) = some (.tup [], rOne sv (rowR f o (.empty, false)).1 (rowR f o (.empty, false)).2) := by
  have hlen := reads_len o.l.ok
  have hm2 := tmod2 o.l.xs.length
  have hkd : decide (o.k = 5) = false := by simpa using hk5
  rw [callW_fun code ext h99]
  unfold rowR
  have hw := put_nil (ext := ext) h98 sv openL (by decide)
  rw [if_neg (by decide), if_neg (by decide)] at hw
  have hpe : putR (.empty, false) openL = (openL, false) := by unfold putR; rw [if_neg (by decide)]; rfl
  have hL2 := fun c0 l0 h1 h2 s0 hs => itemsR_one (inn := inn) h98 hinn hI hl endL c0 l0 h1 h2 s0 hs
  unfold x99
  generalize x99L1 = L at *
  simp only [hkd, Bool.false_eq_true, if_false, false_and]
  simp only [hkd, Bool.false_eq_true, if_false, false_and] at hL2
  rw [hpe]
  obtain ⟨e, s', lp, _, rfl, j, y, c1, l1, hq, g0, g1, rfl⟩ := hL2 openL false (by decide) (by decide) ⟨1, [(0, .optr 0 0), (2, int64 inn), (4, .optr 1 0), (7, strV endL), (8, int64 0)], memR_one sv o openL false⟩ (by simp only [memR_one, cellsR_one]; simp -implicitDefEqProofs)
  rw [hq]
  have hw2 := put_one (ext := ext) h98 sv c1 endL l1 g0 g1 (by decide)
  generalize putR (c1, l1) endL = p3 at *
  obtain ⟨c3, l3⟩ := p3
  cases l3 <;>
  · simp only [rOut, rNil, rOne, rTwo, memR_one, cellsR_one, Bool.not_true, Bool.not_false, Bool.false_eq_true, if_false, if_true] at lp hw hw2 ⊢
    simp -implicitDefEqProofs [-intBin, q_eql, hlen, hw, lp, hw2, hk5]
end
end Go.EX

