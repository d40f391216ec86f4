import Derived.Test.YtfmpeoickjggiaaGreatDoorV9b
set_option linter.unusedVariables false
set_option linter.unusedSimpArgs false
namespace Go.EX
theorem cmp_spec (x y : Int) (hx : -4611686018427387903 ≤ x ∧ x ≤ 4611686018427387903) (hy : -4611686018427387903 ≤ y ∧ y ≤ 4611686018427387903) : run9 250 [int64 x, int64 y] [] = some (int64 (y - x), []) := by
  unfold run9
  rw [callW_fun code9 (extInsert 766) (rfl : code9 250 = some x250)]
  have e1 : IntKind.wrap .i64 (y - x) = y - x := wrapI64 (by omega) (by omega)
  simp -implicitDefEqProofs [x250, e1]
theorem shr_one (h : Nat) : ((h : Int)).fdiv (2 ^ 1) = ((h / 2 : Nat) : Int) := by
  rw [Int.fdiv_eq_ediv_of_nonneg _ (by decide)]
  omega
set_option maxHeartbeats 4000000 in
theorem search_spec {lv : IV} {l : List Int} (hl : Reads (tInt .i64) lv l) (t : Int) (ht : 0 ≤ t ∧ t ≤ 4611686018427387903) (hall : ∀ x ∈ l, 0 ≤ x ∧ x ≤ 4611686018427387903) (hs : l.Pairwise (fun a b => b < a)) :
    ∃ (k : Nat) (b : Bool), run9 737 [.imm lv, int64 t, .clo 250 []] [] = some (.tup [int64 k, avb b], []) ∧ k ≤ l.length ∧ (∀ (i : Nat) (x : Int), l[i]? = some x → i < k → t < x) ∧ (∀ (i : Nat) (x : Int), l[i]? = some x → k ≤ i → x ≤ t) := by
  have hlen := reads_len hl
  have hbl := hl.2.1
  have hsort : ∀ (i j : Nat) (x y : Int), l[i]? = some x → l[j]? = some y → i < j → y < x := by
    intro i j x y hi hj hij
    obtain ⟨h1, rfl⟩ := List.getElem?_eq_some_iff.1 hi
    obtain ⟨h2, rfl⟩ := List.getElem?_eq_some_iff.1 hj
    exact List.pairwise_iff_getElem.1 hs i j h1 h2 hij
  have loop : ∃ e s', den code9 (extInsert 766) (.loop [0, 1, 2, 8, 9, 10] x737L1) ⟨0, [(0, .imm lv), (1, int64 t), (2, .clo 250 []), (8, int64 l.length), (9, int64 0), (10, int64 l.length)], []⟩ = some (e, s') ∧ e ≠ .normal ∧
      (e = .exit 0 ∧ ∃ k : Nat, k ≤ l.length ∧ (∀ (i : Nat) (x : Int), l[i]? = some x → i < k → t < x) ∧ (∀ (i : Nat) (x : Int), l[i]? = some x → k ≤ i → x ≤ t) ∧ s' = ⟨0, [(0, .imm lv), (1, int64 t), (2, .clo 250 []), (8, int64 l.length), (9, int64 k), (10, int64 k), (17, avb false)], []⟩) := by
    refine loop_rule (fun n s => ∃ (i j : Nat), i + n = j ∧ j ≤ l.length ∧ (∀ (a : Nat) (x : Int), l[a]? = some x → a < i → t < x) ∧ (∀ (a : Nat) (x : Int), l[a]? = some x → j ≤ a → x ≤ t) ∧ s = ⟨0, [(0, .imm lv), (1, int64 t), (2, .clo 250 []), (8, int64 l.length), (9, int64 (i : Nat)), (10, int64 (j : Nat))], []⟩) _ ?_ l.length _
      ⟨0, l.length, by omega, Nat.le_refl _, fun a x _ h => by omega, fun a x hx h => by have := (List.getElem?_eq_some_iff.1 hx).1; omega, rfl⟩
    rintro n _ ⟨i, j, hij, hj, h1, h2, rfl⟩
    by_cases hlt : i < j
    · generalize hh : (i + j) / 2 = h
      have hhl : h < l.length := by omega
      have hx := List.getElem?_eq_getElem hhl
      obtain ⟨row, off, cap, rfl, hc, hcut, hget⟩ := reads_pos hl hx
      have hin := hall _ (List.getElem_mem hhl)
      generalize l[h] = x at hget hx hin
      have g0 := cut_one (by simpa [tInt] using hget)
      have hlti : (i : Int) < j := by omega
      have e1 : IntKind.wrap .i64 ((i : Int) + j) = (i : Int) + j := wrapI64 (by omega) (by omega)
      have e2 : IntKind.wrap .u64 ((i : Int) + j) = (i : Int) + j := wrapU64 (by omega) (by omega)
      have e3 : ((i : Int) + j).fdiv 2 = h := by
        have := shr_one (i + j)
        rw [hh] at this
        push_cast at this
        simpa using this
      have e4 : IntKind.wrap .i64 (h : Int) = h := wrapI64 (by omega) (by omega)
      have e5 : IntKind.wrap .i64 ((h : Int) + 1) = (h : Int) + 1 := wrapI64 (by omega) (by omega)
      have hh0 : (h : Int) < l.length := by omega
      have hcm := cmp_spec x t (by omega) (by omega)
      unfold run9 at hcm
      have hb1 : min 1 (IntKind.bits .u64) = 1 := rfl
      have hshr : shiftBin .shr .u64 ((i : Int) + j) 1 = some (.int .u64 h) := by
        simp only [shiftBin]
        rw [if_neg (by omega)]
        show some (Value.int .u64 (((i : Int) + j).fdiv 2)) = _
        rw [e3]
      by_cases hxt : t - x < 0
      · refine ⟨.normal, ⟨0, [(0, .imm (.slice row off l.length cap)), (1, int64 t), (2, .clo 250 []), (8, int64 l.length), (9, int64 ((h : Int) + 1)), (10, int64 (j : Nat))], []⟩, ?_, .inl ⟨rfl, j - (h + 1), by omega, h + 1, j, by omega, hj, fun a y hy ha => ?_, h2, rfl⟩⟩
        · simp only [x737L1]
          simp -implicitDefEqProofs [-shiftBin, hlti, e1, e2, hshr, e4, e5, hh0, hhl, g0, hcm, hxt]
        · rcases Nat.lt_or_ge a h with h3 | h3
          · have := hsort a h y x hy hx h3; omega
          · have : a = h := by omega
            subst this
            rw [hx] at hy; cases hy; omega
      · refine ⟨.normal, ⟨0, [(0, .imm (.slice row off l.length cap)), (1, int64 t), (2, .clo 250 []), (8, int64 l.length), (9, int64 (i : Nat)), (10, int64 (h : Int))], []⟩, ?_, .inl ⟨rfl, h - i, by omega, i, h, by omega, by omega, h1, fun a y hy ha => ?_, rfl⟩⟩
        · simp only [x737L1]
          simp -implicitDefEqProofs [-shiftBin, hlti, e1, e2, hshr, e4, e5, hh0, hhl, g0, hcm, hxt]
        · rcases Nat.eq_or_lt_of_le ha with h3 | h3
          · subst h3
            rw [hx] at hy; cases hy; omega
          · have := hsort h a x y hx hy h3; omega
    · have : i = j := by omega
      subst this
      refine ⟨.exit 0, _, ?_, .inr ⟨by simp, rfl, i, hj, h1, h2, rfl⟩⟩
      simp -implicitDefEqProofs [x737L1]
  obtain ⟨e, s', g1, _, rfl, k, hk, h1, h2, rfl⟩ := loop
  have hfin : ∃ b : Bool, run9 737 [.imm lv, int64 t, .clo 250 []] [] = some (.tup [int64 k, avb b], []) := by
    unfold run9
    rw [callW_fun code9 (extInsert 766) (rfl : code9 737 = some x737)]
    by_cases hlt : k < l.length
    · have hx := List.getElem?_eq_getElem hlt
      obtain ⟨row, off, cap, rfl, hc, hcut, hget⟩ := reads_pos hl hx
      have hin := hall _ (List.getElem_mem hlt)
      generalize l[k] = x at hget hin
      have g0 := cut_one (by simpa [tInt] using hget)
      have hlti : (k : Int) < l.length := by omega
      have hcm := cmp_spec x t (by omega) (by omega)
      unfold run9 at hcm
      exact ⟨decide (t - x = 0), by simp -implicitDefEqProofs [x737, g1, hlti, hlt, g0, hcm]⟩
    · have hlti : ¬ (k : Int) < l.length := by omega
      exact ⟨false, by simp -implicitDefEqProofs [x737, hlen, g1, hlti, hlt]⟩
  obtain ⟨b, hb⟩ := hfin
  exact ⟨k, b, hb, hk, h1, h2⟩
end Go.EX

