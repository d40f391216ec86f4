import Derived.Test.YtgidfebccdfjgaaDoorL1b
set_option linter.unusedVariables false
set_option linter.unusedSimpArgs false
namespace Go.EX
section
variable {code : Nat → Option XFun} {ext : Calls'}
def KnowsLz (code : Nat → Option XFun) (ext : Calls') : Prop := ∀ x : Nat, x < 18446744073709551616 → callW code ext 729 [uint64 x] [] = some (int64 (64 - Lib.bitLen x : Nat), [])
def KnowsTz (code : Nat → Option XFun) (ext : Calls') : Prop := ∀ x : Nat, x < 18446744073709551616 → callW code ext 735 [uint64 x] [] = some (int64 (Lib.ctz 64 x : Nat), [])
theorem shlW (b k : Nat) (h : k ≤ 64) : shiftBin .shl .u64 b k = some (.int .u64 ((b * 2 ^ k % 18446744073709551616 : Nat) : Int)) := by
  have : min ((k : Int).toNat) (IntKind.bits .u64) = k := by simp [IntKind.bits]; omega
  unfold shiftBin
  rw [if_neg (by omega)]
  simp only [this]
  congr 2
theorem within_loop (c : Smalls code) (hz : KnowsLz code ext) {W B : List Nat} {e : Nat} (hi : HI W B e) (a : Int) (P : Nat) (hP : P ≤ e) (ha : -9223372036854775808 ≤ a ∧ a ≤ 9223372036854775807) (s : St) (hs : s.tidy [0, 1, 5] = ⟨3, [(0, .optr 0 0), (1, int64 a), (5, int64 P)], hMem W B e⟩) :
    ∃ x s', den code ext (.loop [0, 1, 5] x187L1) s = some (x, s') ∧ x ≠ .normal ∧
      ((x = .exit 0 ∧ NoBits B 0 P ∧ ∃ ev, s' = ⟨3, ev, hMem W B e⟩) ∨
       (x = .ret ∧ ∃ j, j < P ∧ bitAt B j = true ∧ NoBits B (j + 1) P ∧ s' = ⟨3, [(4, avb (decide (a ≤ j + hd W j)))], hMem W B e⟩)) := by
  refine loop_rule (fun n s => ∃ p, n = p ∧ p ≤ P ∧ NoBits B p P ∧ s.tidy [0, 1, 5] = ⟨3, [(0, .optr 0 0), (1, int64 a), (5, int64 p)], hMem W B e⟩) _ ?_ P s ⟨P, rfl, Nat.le_refl _, fun j h1 h2 => by omega, hs⟩
  clear hs s
  rintro n s ⟨p, rfl, hpP, hno, hs⟩
  rw [hs]
  rcases Nat.eq_zero_or_pos n with rfl | hpos
  · refine ⟨.exit 0, ⟨3, [(0, .optr 0 0), (1, int64 a), (5, int64 0), (14, avb false)], hMem W B e⟩, ?_, .inr ⟨by simp, .inl ⟨rfl, hno, _, rfl⟩⟩⟩
    simp -implicitDefEqProofs [x187L1]
  · have htop := hi.top
    have hbd := hi.bd
    obtain ⟨i, rfl⟩ : ∃ i, n = i + 1 := ⟨n - 1, by omega⟩
    obtain ⟨q, r, hq, hr, hr64, e1, e2⟩ := place_bin (i := i) (by omega)
    obtain ⟨b, g1, g2, g3⟩ := hi.word (i := i) (by omega)
    rw [hq] at g1
    have hi' : i = 64 * q + r := by omega
    generalize hp1 : i + 1 = p at *
    have e3 : IntKind.wrap .i64 ((p : Int) - 1) = i := by rw [wrapI64 (by omega) (by omega)]; omega
    have e4 : (0 : Int) < p := by omega
    have e4' : 0 < p := by omega
    obtain ⟨k, hk⟩ : ∃ k, k = 63 - r := ⟨_, rfl⟩
    have e5 : IntKind.wrap .i64 (63 - (r : Int)) = k := by rw [wrapI64 (by omega) (by omega)]; omega
    have e6 := shlW b k (by omega)
    have e7 := urow_get g1
    have hqB : q < B.length := (List.getElem?_eq_some_iff.1 g1).1
    have hx : b * 2 ^ (63 - r) % 18446744073709551616 = b * 2 ^ k % 18446744073709551616 := by rw [hk]
    have hxl : b * 2 ^ k % 18446744073709551616 < 18446744073709551616 := Nat.mod_lt _ (by decide)
    generalize b * 2 ^ k % 18446744073709551616 = x at *
    by_cases hx0 : x = 0
    · subst hx0
      have e8 : IntKind.wrap .i64 ((r : Int) + 1) = (r : Int) + 1 := wrapI64 (by omega) (by omega)
      obtain ⟨p', hp'⟩ : ∃ p', p' = 64 * q := ⟨_, rfl⟩
      have e9 : IntKind.wrap .i64 ((p : Int) - ((r : Int) + 1)) = p' := by rw [wrapI64 (by omega) (by omega)]; omega
      rw [Int.natCast_zero] at e6
      refine ⟨.normal, ⟨3, [(0, .optr 0 0), (1, int64 a), (5, int64 p')], hMem W B e⟩, ?_, .inl ⟨rfl, p', by omega, p', rfl, by omega, fun j h1 h2 => ?_, ?_⟩⟩
      · simp -implicitDefEqProofs [-intBin, -shiftBin, b_add, b_sub, b_gtr, b_neq, x187L1, e1, e2, e3, e4, e4', e5, e6, e7, e8, e9, hqB]
      · rcases Nat.lt_or_ge j p with h | h
        · exact down_none g1 hr64 hx j (by omega) (by omega)
        · exact hno j h h2
      · simp -implicitDefEqProofs []
    · obtain ⟨k1, k2, t, k3, k4, k5, k6⟩ := down_some g1 hr64 hx hx0
      obtain ⟨j, hj⟩ : ∃ j, j = 64 * q + t := ⟨_, rfl⟩
      rw [← hj] at k5 k6
      have hzx := hz x hxl
      obtain ⟨z, hzz⟩ : ∃ z, z = 64 - Lib.bitLen x := ⟨_, rfl⟩
      rw [← hzz] at hzx
      have e8 : IntKind.wrap .i64 ((z : Int) + 1) = (z : Int) + 1 := wrapI64 (by omega) (by omega)
      have e9 : IntKind.wrap .i64 ((p : Int) - ((z : Int) + 1)) = j := by rw [wrapI64 (by omega) (by omega)]; omega
      have e10 : ¬ ((x : Int) = 0) := by omega
      obtain ⟨w, w1, w2, w3⟩ := (hi.obj k5).head
      have hsz := size_spec (ext := ext) c.c186 W B e j w (hd W j) w1 w2 w3
      have hin := hi.inn j k5
      have e11 : IntKind.wrap .i64 ((j : Int) + hd W j) = (j : Int) + hd W j := wrapI64 (by omega) (by omega)
      generalize hnn : hd W j = n at w2 hsz hin e11
      refine ⟨.ret, ⟨3, [(4, avb (decide (a ≤ j + n)))], hMem W B e⟩, ?_, .inr ⟨by simp, .inr ⟨rfl, j, by omega, k5, fun j' h1 h2 => ?_, by rw [hnn]⟩⟩⟩
      · simp -implicitDefEqProofs [-intBin, -shiftBin, b_add, b_sub, b_gtr, b_neq, b_geq, x187L1, e1, e2, e3, e4, e4', e5, e6, e7, e8, e9, e10, e11, hqB, hx0, hzx, hsz]
      · rcases Nat.lt_or_ge j' p with h | h
        · exact k6 j' h1 (by omega)
        · exact hno j' h h2
theorem within_spec (c : Smalls code) (h : code 187 = some x187) (hz : KnowsLz code ext) {W B : List Nat} {e : Nat} (hi : HI W B e) (a : Int) (ha : -9223372036854775808 ≤ a ∧ a ≤ 9223372036854775807) :
    ∃ w : Bool, callW code ext 187 [.optr 0 0, int64 a] (hMem W B e) = some (avb w, hMem W B e) ∧ (w = true ↔ 0 < a ∧ ∃ j : Nat, (j : Int) < min a e ∧ bitAt B j = true ∧ NoBits B (j + 1) (min a e).toNat ∧ a ≤ j + hd W j) := by
  have htop := hi.top
  have hbd := hi.bd
  by_cases h0 : 0 < a
  · obtain ⟨P, hP⟩ : ∃ P : Nat, P = (min a e).toNat := ⟨_, rfl⟩
    have hPi : (P : Int) = min a e := by omega
    obtain ⟨x, s', h1, h2, h3⟩ := within_loop (code := code) (ext := ext) c hz hi a P (by omega) ha ⟨3, [(0, .optr 0 0), (1, int64 a), (5, int64 P)], hMem W B e⟩ (by simp -implicitDefEqProofs [])
    have hm : (if (e : Int) < a then (e : Int) else a) = P := by rw [hPi]; split <;> omega
    rcases h3 with ⟨rfl, hno, ev, rfl⟩ | ⟨rfl, j, hj, hb, hno, rfl⟩
    · refine ⟨false, ?_, by simp; intro _ j hj hb; rw [hno j (by omega) (by omega)] at hb; cases hb⟩
      rw [callW_fun code ext h]
      simp -implicitDefEqProofs [-intBin, -shiftBin, x187, hm, h1]
    · refine ⟨decide (a ≤ j + hd W j), ?_, ?_⟩
      · rw [callW_fun code ext h]
        simp -implicitDefEqProofs [-intBin, -shiftBin, x187, hm, h1]
      · rw [decide_eq_true_iff]
        constructor
        · intro h; exact ⟨h0, j, by omega, hb, by rw [← hP]; exact hno, h⟩
        · rintro ⟨_, j', g1, g2, g3, g4⟩
          rcases Nat.lt_trichotomy j j' with h | h | h
          · rw [hno j' (by omega) (by omega)] at g2; cases g2
          · subst h; exact g4
          · rw [← hP] at g3; rw [g3 j (by omega) hj] at hb; cases hb
  · refine ⟨false, ?_, by simp; omega⟩
    have hm : (if (e : Int) < a then (e : Int) else a) = a := by split <;> omega
    have hl : den code ext (.loop [0, 1, 5] x187L1) ⟨3, [(0, .optr 0 0), (1, int64 a), (5, int64 a)], hMem W B e⟩ = some (.exit 0, ⟨3, [(0, .optr 0 0), (1, int64 a), (5, int64 a), (14, avb false)], hMem W B e⟩) := by
      rw [den_loop]
      simp -implicitDefEqProofs [x187L1, h0]
    rw [callW_fun code ext h]
    simp -implicitDefEqProofs [-intBin, -shiftBin, x187, hm, hl]
end
end Go.EX

