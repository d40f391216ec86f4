import Derived.Test.YtgidfebccdfjgaaDoorH4
set_option linter.unusedVariables false
set_option linter.unusedSimpArgs false
namespace Go.EX
def placesTo (B : List Nat) (n : Nat) : List Nat := (List.range n).filter (bitAt B)
theorem placesTo_none {B : List Nat} {a b : Nat} (h : a ≤ b) (hn : NoBits B a b) : placesTo B b = placesTo B a := by
  obtain ⟨d, rfl⟩ : ∃ d, b = a + d := ⟨b - a, by omega⟩
  clear h
  induction d with
  | zero => rfl
  | succ d ih =>
    have h1 := hn (a + d) (by omega) (by omega)
    unfold placesTo at *
    rw [← Nat.add_assoc, List.range_succ, List.filter_append, ih fun j h2 h3 => hn j h2 (by omega)]
    simp [h1]
theorem placesTo_bit {B : List Nat} {a : Nat} (h : bitAt B a = true) : placesTo B (a + 1) = placesTo B a ++ [a] := by
  unfold placesTo
  rw [List.range_succ, List.filter_append]
  simp [h]
theorem placesTo_len (B : List Nat) (n : Nat) : (placesTo B n).length ≤ n := Nat.le_trans (List.length_filter_le _ _) (by simp)
section
variable {code : Nat → Option XFun} {ext : Calls'}
abbrev plBase (W B : List Nat) (e : Nat) (out : AV) : Mem := [plLoop 4, .rich [int64 0], .rich [int64 e], .rich [.optr 5 0], .rich [out], .rich [.osl 6 0 1 W.length (some W.length), .osl 7 0 1 B.length (some B.length), int64 e], .flat (urow W) false, .flat (urow B) false]
def PlShape (pre : List Nat) (out : AV) (tail : Mem) : Prop :=
  (pre = [] ∧ out = nilS ∧ tail = []) ∨ (∃ y, pre = [y] ∧ out = .osl 8 0 1 1 none ∧ tail = [.flat [i64v y] false]) ∨ (2 ≤ pre.length ∧ out = .osl 8 0 1 pre.length none ∧ tail = [.rich (pcells pre)])
abbrev plEnv (a : Nat) : Env := [(0, .yld 0), (2, .optr 2 0), (3, .optr 3 0), (5, int64 a)]
theorem pl_step (hy : code yieldNo = none) (ht : KnowsTz code ext) {W B : List Nat} {e : Nat} (hi : HI W B e) (a : Nat) (hae : a < e) (out : AV) (tail : Mem) (hsh : PlShape (placesTo B a) out tail) :
    ∃ s' a' out' tail', den code ext x180L1 ⟨8, plEnv a, plBase W B e out ++ tail⟩ = some (.normal, s') ∧ a < a' ∧ a' ≤ 1048640 ∧ PlShape (placesTo B a') out' tail' ∧ s'.tidy [0, 2, 3, 5] = ⟨8, plEnv a', plBase W B e out' ++ tail'⟩ := by
  have htop := hi.top
  have hbd := hi.bd
  obtain ⟨q, r, hq, hr, hr64, e1, e2⟩ := place_bin (i := a) (by omega)
  obtain ⟨b, g1, g2, g3⟩ := hi.word (i := a) (by omega)
  rw [hq] at g1
  have ha : a = 64 * q + r := by omega
  have e3 := shr_bin b r (by omega)
  have e4 := urow_get g1
  have hqB : q < B.length := (List.getElem?_eq_some_iff.1 g1).1
  have e5 : (a : Int) < e := by omega
  have hxl := div_lt64 g2 r
  generalize hx : b / 2 ^ r = x at *
  by_cases hx0 : x = 0
  · subst hx0
    obtain ⟨a', ha'⟩ : ∃ a', a' = 64 * q + 64 := ⟨_, rfl⟩
    have e6 : IntKind.wrap .i64 (64 - (r : Int)) = 64 - (r : Int) := wrapI64 (by omega) (by omega)
    have e7 : IntKind.wrap .i64 ((a : Int) + (64 - (r : Int))) = a' := by rw [wrapI64 (by omega) (by omega)]; omega
    rw [Int.natCast_zero] at e3
    have hn := up_none g1 hr64 hx
    have hpl : placesTo B a' = placesTo B a := placesTo_none (by omega) (by rw [ha, ha']; exact hn)
    refine ⟨⟨8, plEnv a', plBase W B e out ++ tail⟩, a', out, tail, ?_, by omega, by omega, by rw [hpl]; exact hsh, ?_⟩
    · simp -implicitDefEqProofs [-intBin, -shiftBin, b_lss, b_sub, b_add, b_eql, x180L1, e1, e2, e3, e4, e5, e6, e7, hqB, hae]
    · rcases hsh with ⟨_, rfl, rfl⟩ | ⟨y, _, rfl, rfl⟩ | ⟨_, rfl, rfl⟩ <;> simp -implicitDefEqProofs [pcells_refs, pcells_ren]
  · obtain ⟨h1, h2, h3⟩ := up_some g1 g2 hr64 hx hx0
    have hz := ht x hxl
    generalize Lib.ctz 64 x = z at *
    rw [← ha] at h2 h3
    have hin := hi.inn _ h2
    obtain ⟨j, hj⟩ : ∃ j, j = a + z := ⟨_, rfl⟩
    rw [← hj] at h2 h3 hin
    have e6 : IntKind.wrap .i64 ((a : Int) + z) = j := by rw [wrapI64 (by omega) (by omega)]; omega
    have e7 : ¬ ((j : Int) ≥ e) := by omega
    have e7' : ¬ ((e : Int) ≤ j) := by omega
    have e7'' : ¬ (e ≤ j) := by omega
    obtain ⟨a', ha'⟩ : ∃ a', a' = j + 1 := ⟨_, rfl⟩
    have e8 : IntKind.wrap .i64 ((j : Int) + 1) = a' := by rw [wrapI64 (by omega) (by omega)]; omega
    have e9 : ¬ ((x : Int) = 0) := by omega
    have hpl : placesTo B a' = placesTo B a ++ [j] := by rw [ha', placesTo_bit h2, placesTo_none (a := a) (by omega) h3]
    have hll := placesTo_len B a
    generalize placesTo B a = pre at *
    have p2 := pcells_refs
    have p3 := pcells_ren
    rcases hsh with ⟨rfl, rfl, rfl⟩ | ⟨y, rfl, rfl, rfl⟩ | ⟨h2l, rfl, rfl⟩
    · have hR := round0 (code := code) (ext := ext) hy j
      refine ⟨⟨8, plEnv a', plBase W B e (.osl 8 0 1 1 none) ++ [.flat [i64v j] false]⟩, a', .osl 8 0 1 1 none, [.flat [i64v j] false], ?_, by omega, by omega, by rw [hpl]; exact .inr (.inl ⟨j, rfl, rfl, rfl⟩), ?_⟩
      · simp -implicitDefEqProofs [-intBin, -shiftBin, b_lss, b_sub, b_add, b_eql, b_geq, x180L1, e1, e2, e3, e4, e5, e6, e7, e7', e7'', e8, e9, hqB, hae, hx0, hz, hR]
      · simp -implicitDefEqProofs []
    · have hR := round1 (code := code) (ext := ext) hy y j
      refine ⟨⟨8, plEnv a', plBase W B e (.osl 9 0 1 2 none) ++ [.dead, .rich (pcells [y, j])]⟩, a', .osl 8 0 1 2 none, [.rich (pcells [y, j])], ?_, by omega, by omega, by rw [hpl]; exact .inr (.inr ⟨by simp, rfl, rfl⟩), ?_⟩
      · simp -implicitDefEqProofs [-intBin, -shiftBin, b_lss, b_sub, b_add, b_eql, b_geq, x180L1, e1, e2, e3, e4, e5, e6, e7, e7', e7'', e8, e9, hqB, hae, hx0, hz, hR, p2, p3]
      · simp -implicitDefEqProofs [p2, p3]
    · have hR := round2 (code := code) (ext := ext) hy pre (by omega) j
      refine ⟨⟨8, plEnv a', plBase W B e (.osl 9 0 1 (pre.length + 1) none) ++ [.dead, .rich (pcells (pre ++ [j]))]⟩, a', .osl 8 0 1 (pre.length + 1) none, [.rich (pcells (pre ++ [j]))], ?_, by omega, by omega, by rw [hpl]; exact .inr (.inr ⟨by simp; omega, by simp, rfl⟩), ?_⟩
      · simp -implicitDefEqProofs [-intBin, -shiftBin, b_lss, b_sub, b_add, b_eql, b_geq, x180L1, e1, e2, e3, e4, e5, e6, e7, e7', e7'', e8, e9, hqB, hae, hx0, hz, hR, p2, p3]
      · simp -implicitDefEqProofs [p2, p3]
end
end Go.EX

