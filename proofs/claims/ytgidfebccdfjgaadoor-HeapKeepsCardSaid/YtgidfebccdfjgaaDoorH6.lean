import Derived.Test.YtgidfebccdfjgaaDoorH5b
set_option linter.unusedVariables false
set_option linter.unusedSimpArgs false
namespace Go.EX
def clearBit (B : List Nat) (i : Nat) : List Nat := B.set (i / 64) (minusBits ((B[i / 64]?).getD 0) (2 ^ (i % 64)))
theorem bitAt_clear {B : List Nat} {i : Nat} (h : i / 64 < B.length) (j : Nat) : bitAt (clearBit B i) j = (bitAt B j && decide (j ≠ i)) := by
  unfold bitAt clearBit
  rw [List.getElem?_set]
  by_cases hq : i / 64 = j / 64
  · rw [if_pos hq, if_pos h, ← hq, Option.getD_some, minusBits_bit (by omega), Nat.testBit_two_pow]
    by_cases hj : j = i
    · subst hj; simp
    · have : i % 64 ≠ j % 64 := by omega
      simp [hj, this]
  · rw [if_neg hq]
    have : j ≠ i := by rintro rfl; exact hq rfl
    simp [this]
structure Cleared (B : List Nat) (lo hi : Nat) (B' : List Nat) : Prop where
  len : B'.length = B.length
  blt : ∀ b ∈ B', b < 18446744073709551616
  bit : ∀ j, bitAt B' j = (bitAt B j && !(decide (lo ≤ j) && decide (j < hi)))
section
variable {code : Nat → Option XFun} {ext : Calls'}
abbrev fgLoop (b : Nat) : AObj := .loop [(3, .optr b 0)] [11] (.region [3, 6] [⟨(some 6), .mv (.t 11), none⟩]) x181L1 false
abbrev fgMem (W B : List Nat) (e : Nat) : Mem := [fgLoop 1, .rich [.optr 2 0], .rich [.osl 3 0 1 W.length (some W.length), .osl 4 0 1 B.length (some B.length), int64 e], .flat (urow W) false, .flat (urow B) false]
theorem fg_body (L : AObj) (W B : List Nat) (e : Nat) (x : Nat) (hx : x ≤ 1000000000) (hb : x / 64 < B.length) :
    den code ext x181L1 ⟨5, [(3, .optr 1 0), (6, int64 x)], [L, .rich [.optr 2 0], .rich [.osl 3 0 1 W.length (some W.length), .osl 4 0 1 B.length (some B.length), int64 e], .flat (urow W) false, .flat (urow B) false]⟩ =
      some (.normal, ⟨5, [], [L, .rich [.optr 2 0], .rich [.osl 3 0 1 W.length (some W.length), .osl 4 0 1 B.length (some B.length), int64 e], .flat (urow W) false, .flat (urow (clearBit B x)) false]⟩) := by
  obtain ⟨q, r, hq, hr, hr64, e1, e2⟩ := place_bin (i := x) (by omega)
  unfold clearBit
  rw [hq] at hb
  rw [hq, hr, List.getElem?_eq_getElem hb, Option.getD_some]
  have g1 : B[q]? = some B[q] := List.getElem?_eq_getElem hb
  generalize B[q] = b at g1
  have e3 := shl_bin hr64
  generalize (2 : Nat) ^ r = pw at *
  have e4 := andNot_bin b pw
  generalize minusBits b pw = c at *
  have e5 := urow_get g1
  have e6 := urow_at g1
  have e7 := urow_set B q c
  have e8 := urow_len B
  have e9 : q + 1 ≤ B.length := by omega
  simp -implicitDefEqProofs [-intBin, -shiftBin, x181L1, e1, e2, e3, e4, e5, e6, e7, e8, e9, hb, setAll]
theorem fg_round (hy : code yieldNo = none) (W B : List Nat) (e : Nat) (x : Nat) (hx : x ≤ 1000000000) (hb : x / 64 < B.length) :
    callW code ext yieldNo [.yld 0, int64 x] (fgMem W B e) = some (avb true, [fgLoop 1, .rich [.optr 2 0], .rich [.osl 3 0 1 W.length (some W.length), .osl 4 0 1 B.length (some B.length), int64 e], .flat (urow W) false, .flat (urow (clearBit B x)) false]) := by
  rw [callW_yield code ext hy]
  have hb := fun L => fg_body (code := code) (ext := ext) L W B e x hx hb
  generalize clearBit B x = B' at *
  simp -implicitDefEqProofs [exRound, Env.enterAt, Mem.trim, hb]
abbrev fgBase (W : List Nat) (n : Nat) (B : List Nat) (e : Nat) (lo hi : Nat) : Mem := [fgLoop 4, .rich [int64 lo], .rich [int64 hi], .rich [.optr 5 0], .rich [.optr 5 0], .rich [.osl 6 0 1 W.length (some W.length), .osl 7 0 1 n (some n), int64 e], .flat (urow W) false, .flat (urow B) false]
theorem fg_step (hy : code yieldNo = none) (ht : KnowsTz code ext) {W B : List Nat} {e lo hi : Nat} (n : Nat) (hn : B.length = n) (hbl : ∀ b ∈ B, b < 18446744073709551616) (hhi : hi ≤ 64 * B.length) (hbd : B.length ≤ 1000000) (a : Nat) (hae : a < hi) :
    ∃ x s' a' B', den code ext x180L1 ⟨8, plEnv a, fgBase W n B e lo hi⟩ = some (x, s') ∧ B'.length = B.length ∧ (∀ b ∈ B', b < 18446744073709551616) ∧ (a < a' ∨ x = .ret) ∧ a ≤ a' ∧ a' ≤ 64 * B.length ∧
      (∀ j, bitAt B' j = (bitAt B j && !(decide (a ≤ j) && decide (j < a')))) ∧ NoBits B hi a' ∧
      ((x = .normal ∧ s' = ⟨8, plEnv a', fgBase W n B' e lo hi⟩) ∨ (x = .ret ∧ hi ≤ a' ∧ ∃ ev, s' = ⟨8, ev, fgBase W n B' e lo hi⟩)) := by
  obtain ⟨q, r, hq, hr, hr64, e1, e2⟩ := place_bin (i := a) (by omega)
  have hqB : q < B.length := by omega
  have g1 : B[q]? = some B[q] := List.getElem?_eq_getElem hqB
  have g2 := hbl _ (List.getElem_mem hqB)
  generalize B[q] = b at g1 g2
  have ha : a = 64 * q + r := by omega
  have e3 := shr_bin b r (by omega)
  have e4 := urow_get g1
  have e5 : (a : Int) < hi := by omega
  have hxl := div_lt64 g2 r
  have hqn : q < n := by omega
  generalize hx : b / 2 ^ r = x at *
  by_cases hx0 : x = 0
  · subst hx0
    obtain ⟨a', ha'⟩ : ∃ a', a' = 64 * q + 64 := ⟨_, rfl⟩
    have e6 : IntKind.wrap .i64 (64 - (r : Int)) = 64 - (r : Int) := wrapI64 (by omega) (by omega)
    have e7 : IntKind.wrap .i64 ((a : Int) + (64 - (r : Int))) = a' := by rw [wrapI64 (by omega) (by omega)]; omega
    rw [Int.natCast_zero] at e3
    have hno := up_none g1 hr64 hx
    refine ⟨.normal, ⟨8, plEnv a', fgBase W n B e lo hi⟩, a', B, ?_, rfl, hbl, .inl (by omega), by omega, by omega, fun j => ?_, fun j h1 h2 => hno j (by omega) (by omega), .inl ⟨rfl, rfl⟩⟩
    · simp -implicitDefEqProofs [-intBin, -shiftBin, b_lss, b_sub, b_add, b_eql, x180L1, e1, e2, e3, e4, e5, e6, e7, hqB, hqn, hae]
    · by_cases h : a ≤ j ∧ j < a'
      · rw [hno j (by omega) (by omega)]; simp
      · have : ¬ (decide (a ≤ j) && decide (j < a')) = true := by simpa using h
        simp [this]
  · obtain ⟨h1, h2, h3⟩ := up_some g1 g2 hr64 hx hx0
    have hz := ht x hxl
    generalize Lib.ctz 64 x = z at *
    rw [← ha] at h2 h3
    obtain ⟨j, hj⟩ : ∃ j, j = a + z := ⟨_, rfl⟩
    rw [← hj] at h2 h3
    have hj64 : j / 64 = q := by omega
    have e6 : IntKind.wrap .i64 ((a : Int) + z) = j := by rw [wrapI64 (by omega) (by omega)]; omega
    have e9 : ¬ ((x : Int) = 0) := by omega
    by_cases hjh : j < hi
    · have e7 : ¬ ((j : Int) ≥ hi) := by omega
      have e7' : ¬ ((hi : Int) ≤ j) := by omega
      have e7'' : ¬ (hi ≤ j) := by omega
      obtain ⟨a', ha'⟩ : ∃ a', a' = j + 1 := ⟨_, rfl⟩
      have e8 : IntKind.wrap .i64 ((j : Int) + 1) = a' := by rw [wrapI64 (by omega) (by omega)]; omega
      have hR := fg_round (code := code) (ext := ext) hy W B e j (by omega) (by omega)
      simp only [fgMem, hn] at hR
      have hbc := bitAt_clear (B := B) (i := j) (by omega)
      have hcl : (clearBit B j).length = B.length := by simp [clearBit]
      have hcb : ∀ b ∈ clearBit B j, b < 18446744073709551616 := by
        intro c hc
        rcases List.mem_or_eq_of_mem_set hc with h | rfl
        · exact hbl c h
        · exact minusBits_lt _ _
      generalize clearBit B j = B' at *
      refine ⟨.normal, ⟨8, plEnv a', fgBase W n B' e lo hi⟩, a', B', ?_, hcl, hcb, .inl (by omega), by omega, by omega, fun i => ?_, fun i h1 h2 => by omega, .inl ⟨rfl, rfl⟩⟩
      · simp -implicitDefEqProofs [-intBin, -shiftBin, b_lss, b_sub, b_add, b_eql, b_geq, x180L1, e1, e2, e3, e4, e5, e6, e7, e7', e7'', e8, e9, hqB, hqn, hae, hx0, hz, hR]
      · rw [hbc i]
        by_cases hij : i = j
        · subst hij
          have : decide (a ≤ i) && decide (i < a') := by simp; omega
          simp [this]
        · by_cases h : a ≤ i ∧ i < a'
          · rw [h3 i (by omega) (by omega)]; simp
          · have : ¬ (decide (a ≤ i) && decide (i < a')) = true := by simpa using h
            simp [this, hij]
    · have e7 : ((j : Int) ≥ hi) := by omega
      have e7' : ((hi : Int) ≤ j) := by omega
      have e7'' : (hi ≤ j) := by omega
      refine ⟨.ret, ⟨8, plEnv j ++ [(41, avb true)], fgBase W n B e lo hi⟩, j, B, ?_, rfl, hbl, .inr rfl, by omega, by omega, fun i => ?_, fun i g3 g4 => h3 i (by omega) g4, .inr ⟨rfl, e7'', _, rfl⟩⟩
      · simp -implicitDefEqProofs [-intBin, -shiftBin, b_lss, b_sub, b_add, b_eql, b_geq, x180L1, e1, e2, e3, e4, e5, e6, e7, e7', e7'', e9, hqB, hqn, hae, hx0, hz]
      · by_cases h : a ≤ i ∧ i < j
        · rw [h3 i (by omega) (by omega)]; simp
        · have : ¬ (decide (a ≤ i) && decide (i < j)) = true := by simpa using h
          simp [this]
end
end Go.EX

