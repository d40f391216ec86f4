/-
  EX: law 09: VerifyRuns: a round's beginning; what catches.
-/
import Derived.Test.YtfmpeoickjggiaaV9t
import Derived.Test.YtfmpeoickjggiaaL9a
import Derived.Test.YtfmpeoickjggiaaC9e
set_option linter.unusedVariables false
set_option linter.unusedSimpArgs false
namespace Go.EX

abbrev vEnv (cv tv : IV) (pc d i : Int) : Env := [(2, .imm cv), (7, .imm tv), (9, .optr 0 0), (10, int64 pc), (11, int64 d), (12, int64 i)]
def vMem (f : Fn) : Mem := [.rich (fnCells f)]
def vMemI (f : Fn) (x : Ins) : Mem := [.rich (fnCells f), .rich [.imm (.val (.int .u8 x.op)), int64 x.a]]

theorem run_A (cv tv : IV) (f : Fn) (pc d : Int) (i : Nat) : den code9 (extInsert 766) v9A ⟨0, vEnv cv tv pc d i, vMem f⟩ =
    if i < 300 then some (.normal, ⟨0, vEnv cv tv pc d i ++ [(46, avb true)], vMem f⟩) else some (.exit 0, ⟨0, vEnv cv tv pc d i ++ [(46, avb false)], vMem f⟩) := by
  by_cases h : i < 300
  · have h2 : ((i : Int) < 300) := by omega
    simp -implicitDefEqProofs [v9A, h, h2, vMem]
  · have h2 : ¬ ((i : Int) < 300) := by omega
    simp -implicitDefEqProofs [v9A, h, h2, vMem]

theorem rem_nat (i n : Nat) : ((i : Int)).tmod (n : Int) = ((i % n : Nat) : Int) := rfl

theorem run_pre {cv tv : IV} {cs T : List Int} (hc : Reads (tInt .u8) cv cs) (hT : Reads (tInt .i64) tv T) (f : Fn) (pc i : Nat) (x : Ins) (d c : Int) (hd : T[pc]? = some d) (h0 : 0 ≤ d ∧ d ≤ 256) (hx : f.code.xs[pc]? = some x) (hn : 0 < cs.length) (hcc : cs[i % cs.length]? = some c) (X : XCode) :
    den code9 (extInsert 766) (.seq v9B1 (.seq v9B2 (.seq v9B3 X))) ⟨0, vEnv cv tv pc d i ++ [(46, avb true)], vMem f⟩ =
      den code9 (extInsert 766) X ⟨0, vEnv cv tv pc d i ++ [(13, .optr 1 0), (14, .imm (.val (.int .u8 c)))], vMemI f x⟩ := by
  have hlt := (List.getElem?_eq_some_iff.1 hx).1
  have hlt2 := (List.getElem?_eq_some_iff.1 hd).1
  have hlc : cs.length ≠ 0 := by omega
  have hmod := Nat.mod_lt i hn
  have l5 := reads_len f.code.ok
  have lc := reads_len hc
  have lt := reads_len hT
  obtain ⟨row, off, cap, hiv, _, _, hget⟩ := reads_pos f.code.ok hx
  obtain ⟨row2, off2, cap2, rfl, _, _, hget2⟩ := reads_pos hT hd
  obtain ⟨row3, off3, cap3, rfl, _, _, hget3⟩ := reads_pos hc hcc
  simp only [tIns] at hget
  simp only [tInt, Nat.mul_one] at hget2 hget3
  replace hget2 := cut_one hget2
  replace hget3 := cut_one hget3
  have e1 : ¬ ((pc : Int) < 0) := by omega
  have e2 : ¬ ((f.code.xs.length : Int) ≤ pc) := by omega
  have e2b : ((pc : Int) < f.code.xs.length) := by omega
  have e3 : ((pc : Int) < T.length) := by omega
  have e4 : ¬ (d < 0) := by omega
  have e5 : ¬ (256 < d) := by omega
  have e6 : ((i % cs.length : Nat) : Int) < (cs.length : Int) := by omega
  have e7 : ((cs.length : Int) ≠ 0) := by omega
  have e8 : (0 : Int) ≤ (i : Int).tmod (cs.length : Int) := by rw [rem_nat]; omega
  have e9 : (i : Int).tmod (cs.length : Int) < (cs.length : Int) := by rw [rem_nat]; omega
  have e10 : ((i : Int).tmod (cs.length : Int)).toNat = i % cs.length := by rw [rem_nat]; omega
  rw [hiv] at l5
  simp only [vMem, vMemI, fnCells, hiv]
  simp -implicitDefEqProofs [v9B1, v9B2, v9B3, e1, e2, e2b, e3, e4, e5, hlt, hlt2, hget, hget2, hget3, l5, lc, lt, e8, e9, e10, e7, hmod, hlc]

/-- What is known while it is asked what catches. -/
def Caught (f : Fn) (pc : Nat) (d at' d' : Int) : Prop := (at' = -1 ∧ d' = d) ∨ ∃ h ∈ f.handlers.xs, isB pc h.fr h.to = true ∧ at' = h.at' ∧ d' = h.deep + 1

theorem catch_loop (cv tv : IV) (f : Fn) (pc i : Nat) (d : Int) (hh : ∀ h ∈ f.handlers.xs, handOk f.code.xs.length h = true) {st : St} (hst : st.tidy [2, 7, 9, 10, 11, 12, 15, 16] = ⟨0, vEnv cv tv pc d i ++ [(15, int64 (-1)), (16, int64 0)], vMem f⟩) :
    ∃ e s', den code9 (extInsert 766) (.loop [2, 7, 9, 10, 11, 12, 15, 16] x465L1) st = some (e, s') ∧ e ≠ .normal ∧
      (e = .exit 2 ∧ ∃ at' d' k, Caught f pc d at' d' ∧ s' = ⟨0, vEnv cv tv pc d' i ++ [(15, int64 at'), (16, int64 k), (102, avb false)], vMem f⟩) := by
  have lh := reads_len f.handlers.ok
  have hb := f.handlers.ok.2.1
  refine loop_rule (fun n s => ∃ (k : Nat) (at' d' : Int), s.tidy [2, 7, 9, 10, 11, 12, 15, 16] = ⟨0, vEnv cv tv pc d' i ++ [(15, int64 at'), (16, int64 k)], vMem f⟩ ∧
    ((at' = -1 ∧ d' = d ∧ k + n = f.handlers.xs.length) ∨ (0 ≤ at' ∧ n = 0 ∧ ∃ h ∈ f.handlers.xs, isB pc h.fr h.to = true ∧ at' = h.at' ∧ d' = h.deep + 1))) _ ?_ f.handlers.xs.length _ ⟨0, -1, d, hst, .inl ⟨rfl, rfl, by omega⟩⟩
  clear hst
  rintro n s ⟨k, at', d', hst, hI⟩
  rw [hst]
  rcases hI with ⟨rfl, rfl, hk⟩ | ⟨hat, rfl, hin⟩
  · by_cases hlt : k < f.handlers.xs.length
    · have hlt2 : ((k : Int) < f.handlers.xs.length) := by omega
      obtain ⟨row, off, cap, hiv, _, _, hget⟩ := reads_pos f.handlers.ok (List.getElem?_eq_getElem hlt)
      have hmem := List.getElem_mem hlt
      generalize f.handlers.xs[k] = h at hget hmem
      have hok := handOk_at (hh h hmem)
      simp only [tHandler] at hget
      have e1 : IntKind.wrap .i64 ((k : Int) + 1) = (k : Int) + 1 := wrapI64 (by omega) (by omega)
      have e2 : IntKind.wrap .i64 (h.deep + 1) = h.deep + 1 := wrapI64 (by omega) (by omega)
      have e3 : ((k : Int) + 1) = ((k + 1 : Nat) : Int) := by omega
      rw [hiv] at lh
      simp only [vMem, fnCells, hiv]
      by_cases c1 : h.fr ≤ (pc : Int)
      · by_cases c2 : (pc : Int) < h.to
        · refine ⟨.normal, ⟨0, vEnv cv tv pc (h.deep + 1) i ++ [(15, int64 h.at'), (16, int64 ((k : Int) + 1))], vMem f ++ [.rich [int64 h.fr, int64 h.to, int64 h.at', int64 h.deep]]⟩, ?_, .inl ⟨rfl, 0, by omega, k + 1, h.at', h.deep + 1, ?_, .inr ⟨by omega, rfl, h, hmem, ?_, rfl, rfl⟩⟩⟩
          · simp -implicitDefEqProofs [x465L1, vMem, fnCells, hiv, lh, hlt, hlt2, hget, c1, c2, e1, e2]
          · simp -implicitDefEqProofs [vMem, fnCells, hiv]
          · simp [isB, c1, c2]
        · refine ⟨.normal, ⟨0, vEnv cv tv pc d' i ++ [(15, int64 (-1)), (16, int64 ((k : Int) + 1))], vMem f ++ [.rich [int64 h.fr, int64 h.to, int64 h.at', int64 h.deep]]⟩, ?_, .inl ⟨rfl, n - 1, by omega, k + 1, -1, d', ?_, .inl ⟨rfl, rfl, by omega⟩⟩⟩
          · simp -implicitDefEqProofs [x465L1, vMem, fnCells, hiv, lh, hlt, hlt2, hget, c1, c2, e1, e2]
          · simp -implicitDefEqProofs [vMem, fnCells, hiv]
      · refine ⟨.normal, ⟨0, vEnv cv tv pc d' i ++ [(15, int64 (-1)), (16, int64 ((k : Int) + 1))], vMem f ++ [.rich [int64 h.fr, int64 h.to, int64 h.at', int64 h.deep]]⟩, ?_, .inl ⟨rfl, n - 1, by omega, k + 1, -1, d', ?_, .inl ⟨rfl, rfl, by omega⟩⟩⟩
        · simp -implicitDefEqProofs [x465L1, vMem, fnCells, hiv, lh, hlt, hlt2, hget, c1, e1, e2]
        · simp -implicitDefEqProofs [vMem, fnCells, hiv]
    · have hlt2 : ¬ ((k : Int) < f.handlers.xs.length) := by omega
      refine ⟨.exit 2, ⟨0, vEnv cv tv pc d' i ++ [(15, int64 (-1)), (16, int64 k), (102, avb false)], vMem f⟩, ?_, .inr ⟨by simp, rfl, -1, d', k, .inl ⟨rfl, rfl⟩, rfl⟩⟩
      simp -implicitDefEqProofs [x465L1, vMem, fnCells, lh, hlt, hlt2]
  · refine ⟨.exit 2, ⟨0, vEnv cv tv pc d' i ++ [(15, int64 at'), (16, int64 k), (102, avb false)], vMem f⟩, ?_, .inr ⟨by simp, rfl, at', d', k, .inr hin, rfl⟩⟩
    have hneg : ¬ at' < 0 := by omega
    by_cases hlt : (k : Int) < f.handlers.xs.length
    · simp -implicitDefEqProofs [x465L1, vMem, fnCells, lh, hlt, hneg]
    · simp -implicitDefEqProofs [x465L1, vMem, fnCells, lh, hlt, hneg]

end Go.EX
