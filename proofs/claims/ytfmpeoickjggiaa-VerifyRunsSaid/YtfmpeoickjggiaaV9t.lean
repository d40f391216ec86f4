/-
  EX: law 09: sizes; is code too great to be looked at?
-/
import Derived.Test.YtfmpeoickjggiaaV9s
set_option linter.unusedVariables false
set_option linter.unusedSimpArgs false
namespace Go.EX

theorem size304 {iv : IV} {xs : List Cap} (hr : Reads tCap iv xs) : ∃ n, run9 304 [.imm iv] [] = some (int64 n, []) := by
  refine ⟨xs.length, ?_⟩
  unfold run9
  rw [callW_fun code9 (extInsert 766) (rfl : code9 304 = some x304)]
  simp -implicitDefEqProofs [x304, reads_len hr]

theorem size318 {iv : IV} {xs : List Ins} (hr : Reads tIns iv xs) : ∃ n, run9 318 [.imm iv] [] = some (int64 n, []) := by
  refine ⟨xs.length, ?_⟩
  unfold run9
  rw [callW_fun code9 (extInsert 766) (rfl : code9 318 = some x318)]
  simp -implicitDefEqProofs [x318, reads_len hr]

theorem size319 {iv : IV} {xs : List Int} (hr : Reads (tInt .i64) iv xs) : ∃ n, run9 319 [.imm iv] [] = some (int64 n, []) := by
  refine ⟨xs.length, ?_⟩
  unfold run9
  rw [callW_fun code9 (extInsert 766) (rfl : code9 319 = some x319)]
  simp -implicitDefEqProofs [x319, reads_len hr]

theorem size314 {iv : IV} {xs : List Handler} (hr : Reads tHandler iv xs) : ∃ n, run9 314 [.imm iv] [] = some (int64 n, []) := by
  refine ⟨xs.length, ?_⟩
  unfold run9
  rw [callW_fun code9 (extInsert 766) (rfl : code9 314 = some x314)]
  simp -implicitDefEqProofs [x314, reads_len hr]

theorem size305 {iv : IV} {xs : List Const} (hr : Reads tConst iv xs) : ∃ n, run9 305 [.imm iv] [] = some (int64 n, []) := by
  have hlen := reads_len hr
  have hb := hr.2.1
  have loop : ∃ e s', den code9 (extInsert 766) (.loop [0, 3, 4] x305L1) ⟨0, [(0, .imm iv), (3, int64 xs.length), (4, int64 0)], []⟩ = some (e, s') ∧ e ≠ .normal ∧
      (e = .exit 0 ∧ s'.k = 0 ∧ s'.mem = [] ∧ ∃ n, s'.env.get 3 = int64 n) := by
    refine loop_rule (fun n s => ∃ (i : Nat) (m : Int), i + n = xs.length ∧ s.tidy [0, 3, 4] = ⟨0, [(0, .imm iv), (3, int64 m), (4, int64 (i : Nat))], []⟩) _ ?_ xs.length _ ⟨0, xs.length, by simp, by simp -implicitDefEqProofs []⟩
    rintro n s ⟨i, m, hi, hs⟩
    rw [hs]
    by_cases hlt : i < xs.length
    · obtain ⟨row, off, cap, rfl, hc, hcut, hget⟩ := reads_pos hr (List.getElem?_eq_getElem hlt)
      have e1 : IntKind.wrap .i64 ((i : Int) + 1) = (i : Int) + 1 := wrapI64 (by omega) (by omega)
      generalize xs[i] = o at hget
      simp only [tConst] at hget
      have hg2 : row[off + i * 3 + 2]? = some (.val (.string o.s)) := by
        have := cut_cut hget (a := 2) (b := 1) (by omega)
        simp at this
        exact cut_one this
      by_cases hc2 : m ≤ 1048576
      · refine ⟨.normal, ⟨0, [(0, .imm (.slice row off xs.length cap)), (3, int64 (IntKind.wrap .i64 (m + o.s.size))), (4, int64 ((i : Int) + 1))], []⟩, ?_, .inl ⟨rfl, n - 1, by omega, i + 1, (IntKind.wrap .i64 (m + o.s.size)), by omega, by simp -implicitDefEqProofs []⟩⟩
        simp -implicitDefEqProofs [x305L1, hlt, hg2, hc2, e1]
      · refine ⟨.exit 0, ⟨0, [(0, .imm (.slice row off xs.length cap)), (3, int64 m), (4, int64 (i : Int)), (14, avb false)], []⟩, ?_, .inr ⟨by simp, rfl, rfl, rfl, m, by simp⟩⟩
        simp -implicitDefEqProofs [x305L1, hlt, hc2]
    · have : ¬ ((i : Int) < xs.length) := by omega
      refine ⟨.exit 0, ⟨0, [(0, .imm iv), (3, int64 m), (4, int64 (i : Int)), (14, avb false)], []⟩, ?_, .inr ⟨by simp, rfl, rfl, rfl, m, by simp⟩⟩
      simp -implicitDefEqProofs [x305L1, hlen, this]
  obtain ⟨e, s', h1, _, rfl, h3, h4, m, h5⟩ := loop
  refine ⟨m, ?_⟩
  unfold run9
  rw [callW_fun code9 (extInsert 766) (rfl : code9 305 = some x305)]
  simp -implicitDefEqProofs [x305, hlen, h1, h3, h4, h5]

theorem size312 (f : Fn) (hw : tFn.wf f) : ∃ n, run9 312 [fnAV f] [] = some (int64 n, []) := by
  obtain ⟨n1, h1⟩ := size304 f.caps.ok
  obtain ⟨n2, h2⟩ := size305 f.consts.ok
  obtain ⟨n3, h3⟩ := size318 f.code.ok
  obtain ⟨n4, h4⟩ := size319 f.lines.ok
  obtain ⟨n5, h5⟩ := size314 f.handlers.ok
  unfold run9 at *
  rw [callW_fun code9 (extInsert 766) (rfl : code9 312 = some x312)]
  by_cases c1 : IntKind.wrap .i64 (1 + (f.name.size : Int)) ≤ 1048576
  · skip
    by_cases c2 : IntKind.wrap .i64 (IntKind.wrap .i64 (1 + (f.name.size : Int)) + n1) ≤ 1048576
    · skip
      by_cases c3 : IntKind.wrap .i64 (IntKind.wrap .i64 (IntKind.wrap .i64 (1 + (f.name.size : Int)) + n1) + n2) ≤ 1048576
      · skip
        by_cases c4 : IntKind.wrap .i64 (IntKind.wrap .i64 (IntKind.wrap .i64 (IntKind.wrap .i64 (1 + (f.name.size : Int)) + n1) + n2) + n3) ≤ 1048576
        · skip
          by_cases c5 : IntKind.wrap .i64 (IntKind.wrap .i64 (IntKind.wrap .i64 (IntKind.wrap .i64 (IntKind.wrap .i64 (1 + (f.name.size : Int)) + n1) + n2) + n3) + n4) ≤ 1048576
          · skip
            refine ⟨IntKind.wrap .i64 (IntKind.wrap .i64 (IntKind.wrap .i64 (IntKind.wrap .i64 (IntKind.wrap .i64 (IntKind.wrap .i64 (1 + (f.name.size : Int)) + n1) + n2) + n3) + n4) + n5), ?_⟩
            simp -implicitDefEqProofs [x312, h1, h2, h3, h4, h5, c1, c2, c3, c4, c5]
          · refine ⟨IntKind.wrap .i64 (IntKind.wrap .i64 (IntKind.wrap .i64 (IntKind.wrap .i64 (IntKind.wrap .i64 (1 + (f.name.size : Int)) + n1) + n2) + n3) + n4), ?_⟩
            simp -implicitDefEqProofs [x312, h1, h2, h3, h4, h5, c1, c2, c3, c4, c5]
        · refine ⟨IntKind.wrap .i64 (IntKind.wrap .i64 (IntKind.wrap .i64 (IntKind.wrap .i64 (1 + (f.name.size : Int)) + n1) + n2) + n3), ?_⟩
          simp -implicitDefEqProofs [x312, h1, h2, h3, h4, h5, c1, c2, c3, c4]
      · refine ⟨IntKind.wrap .i64 (IntKind.wrap .i64 (IntKind.wrap .i64 (1 + (f.name.size : Int)) + n1) + n2), ?_⟩
        simp -implicitDefEqProofs [x312, h1, h2, h3, h4, h5, c1, c2, c3]
    · refine ⟨IntKind.wrap .i64 (IntKind.wrap .i64 (1 + (f.name.size : Int)) + n1), ?_⟩
      simp -implicitDefEqProofs [x312, h1, h2, h3, h4, h5, c1, c2]
  · refine ⟨IntKind.wrap .i64 (1 + (f.name.size : Int)), ?_⟩
    simp -implicitDefEqProofs [x312, h1, h2, h3, h4, h5, c1]

theorem size313 {iv : IV} {xs : List Fn} (hr : Reads tFn iv xs) : ∃ n, run9 313 [.imm iv] [] = some (int64 n, []) := by
  have hlen := reads_len hr
  have hb := hr.2.1
  have loop : ∃ e s', den code9 (extInsert 766) (.loop [0, 3, 4] x313L1) ⟨0, [(0, .imm iv), (3, int64 xs.length), (4, int64 0)], []⟩ = some (e, s') ∧ e ≠ .normal ∧
      (e = .exit 0 ∧ s'.k = 0 ∧ s'.mem = [] ∧ ∃ n, s'.env.get 3 = int64 n) := by
    refine loop_rule (fun n s => ∃ (i : Nat) (m : Int), i + n = xs.length ∧ s.tidy [0, 3, 4] = ⟨0, [(0, .imm iv), (3, int64 m), (4, int64 (i : Nat))], []⟩) _ ?_ xs.length _ ⟨0, xs.length, by simp, by simp -implicitDefEqProofs []⟩
    rintro n s ⟨i, m, hi, hs⟩
    rw [hs]
    by_cases hlt : i < xs.length
    · obtain ⟨row, off, cap, rfl, hc, hcut, hget⟩ := reads_pos hr (List.getElem?_eq_getElem hlt)
      have e1 : IntKind.wrap .i64 ((i : Int) + 1) = (i : Int) + 1 := wrapI64 (by omega) (by omega)
      have hw := hr.1 _ (List.getElem_mem hlt)
      generalize xs[i] = o at hget hw
      simp only [tFn] at hget
      obtain ⟨k, hk⟩ := size312 o hw
      unfold run9 fnAV at hk
      by_cases hc2 : m ≤ 1048576
      · refine ⟨.normal, ⟨0, [(0, .imm (.slice row off xs.length cap)), (3, int64 (IntKind.wrap .i64 (m + k))), (4, int64 ((i : Int) + 1))], []⟩, ?_, .inl ⟨rfl, n - 1, by omega, i + 1, (IntKind.wrap .i64 (m + k)), by omega, by simp -implicitDefEqProofs []⟩⟩
        simp -implicitDefEqProofs [x313L1, hlt, hget, hc2, e1, hk]
      · refine ⟨.exit 0, ⟨0, [(0, .imm (.slice row off xs.length cap)), (3, int64 m), (4, int64 (i : Int)), (14, avb false)], []⟩, ?_, .inr ⟨by simp, rfl, rfl, rfl, m, by simp⟩⟩
        simp -implicitDefEqProofs [x313L1, hlt, hc2]
    · have : ¬ ((i : Int) < xs.length) := by omega
      refine ⟨.exit 0, ⟨0, [(0, .imm iv), (3, int64 m), (4, int64 (i : Int)), (14, avb false)], []⟩, ?_, .inr ⟨by simp, rfl, rfl, rfl, m, by simp⟩⟩
      simp -implicitDefEqProofs [x313L1, hlen, this]
  obtain ⟨e, s', h1, _, rfl, h3, h4, m, h5⟩ := loop
  refine ⟨m, ?_⟩
  unfold run9
  rw [callW_fun code9 (extInsert 766) (rfl : code9 313 = some x313)]
  simp -implicitDefEqProofs [x313, hlen, h1, h3, h4, h5]

theorem size340 {iv : IV} {xs : List Fn} (hr : Reads tFn iv xs) : ∃ n, run9 340 [.imm iv] [] = some (int64 n, []) := by
  obtain ⟨n, h⟩ := size313 hr
  refine ⟨n, ?_⟩
  unfold run9 at *
  rw [callW_fun code9 (extInsert 766) (rfl : code9 340 = some x340)]
  simp -implicitDefEqProofs [x340, h]

/-- Is one size beyond what is looked at? -/
theorem beyond_one (n : Int) (cap : Option Nat) : ∃ b, run9 303 [.imm (.slice [.val (.int .i64 n)] 0 1 cap)] [] = some (avb b, []) := by
  unfold run9
  have loop : ∃ e s', den code9 (extInsert 766) (.loop [0, 3, 4] x303L1) ⟨0, [(0, .imm (.slice [.val (.int .i64 n)] 0 1 cap)), (3, int64 0), (4, int64 0)], []⟩ = some (e, s') ∧ e ≠ .normal ∧
      ((e = .exit 0 ∧ s'.k = 0 ∧ s'.mem = []) ∨ (e = .ret ∧ s' = ⟨0, [(2, avb true)], []⟩)) := by
    refine loop_rule (fun k s => (k = 1 ∧ s.tidy [0, 3, 4] = ⟨0, [(0, .imm (.slice [.val (.int .i64 n)] 0 1 cap)), (3, int64 0), (4, int64 0)], []⟩) ∨ (k = 0 ∧ ∃ m, s.tidy [0, 3, 4] = ⟨0, [(0, .imm (.slice [.val (.int .i64 n)] 0 1 cap)), (3, int64 m), (4, int64 1)], []⟩)) _ ?_ 1 _ (.inl ⟨rfl, by simp -implicitDefEqProofs []⟩)
    rintro k s (⟨rfl, hs⟩ | ⟨rfl, m, hs⟩)
    · rw [hs]
      have e1 : IntKind.wrap .i64 (1 : Int) = 1 := wrapI64 (by omega) (by omega)
      by_cases h : IntKind.wrap .i64 n > 1048576
      · refine ⟨.ret, ⟨0, [(2, avb true)], []⟩, ?_, .inr ⟨by simp, .inr ⟨rfl, rfl⟩⟩⟩
        simp -implicitDefEqProofs [x303L1, h]
      · refine ⟨.normal, ⟨0, [(0, .imm (.slice [.val (.int .i64 n)] 0 1 cap)), (3, int64 (IntKind.wrap .i64 n)), (4, int64 1)], []⟩, ?_, .inl ⟨rfl, 0, by omega, .inr ⟨rfl, (IntKind.wrap .i64 n), by simp -implicitDefEqProofs []⟩⟩⟩
        simp -implicitDefEqProofs [x303L1, h, e1]
    · rw [hs]
      refine ⟨.exit 0, ⟨0, [(0, .imm (.slice [.val (.int .i64 n)] 0 1 cap)), (3, int64 m), (4, int64 1), (8, avb false)], []⟩, ?_, .inr ⟨by simp, .inl ⟨rfl, rfl, rfl⟩⟩⟩
      simp -implicitDefEqProofs [x303L1]
  rw [callW_fun code9 (extInsert 766) (rfl : code9 303 = some x303)]
  obtain ⟨e, s', h1, _, ⟨rfl, h3, h4⟩ | ⟨rfl, rfl⟩⟩ := loop
  · refine ⟨false, ?_⟩
    simp -implicitDefEqProofs [x303, h1, h3, h4]
  · refine ⟨true, ?_⟩
    simp -implicitDefEqProofs [x303, h1]

/-- Is code too great to be looked at? It is told. -/
theorem great9 {iv : IV} {xs : List Fn} (hr : Reads tFn iv xs) : ∃ b, run9 468 [.imm iv] [] = some (avb b, []) := by
  have hlen := reads_len hr
  have hb := hr.2.1
  have loop : ∃ e s', den code9 (extInsert 766) (.loop [0, 3, 4] x468L1) ⟨0, [(0, .imm iv), (3, int64 0), (4, int64 0)], []⟩ = some (e, s') ∧ e ≠ .normal ∧
      (e = .exit 0 ∧ ∃ n x, s' = ⟨0, [(0, .imm iv), (3, int64 n), (4, int64 x), (8, avb false)], []⟩) := by
    refine loop_rule (fun n s => ∃ (i : Nat) (m : Int), i + n = xs.length ∧ s.tidy [0, 3, 4] = ⟨0, [(0, .imm iv), (3, int64 m), (4, int64 (i : Nat))], []⟩) _ ?_ xs.length _ ⟨0, 0, by simp, by simp -implicitDefEqProofs []⟩
    rintro n s ⟨i, m, hi, hs⟩
    rw [hs]
    by_cases hlt : i < xs.length
    · obtain ⟨row, off, cap, rfl, hc, hcut, hget⟩ := reads_pos hr (List.getElem?_eq_getElem hlt)
      have e1 : IntKind.wrap .i64 ((i : Int) + 1) = (i : Int) + 1 := wrapI64 (by omega) (by omega)
      generalize xs[i] = o at hget
      simp only [tFn] at hget
      have hg2 : row[off + i * 8 + 7]? = some o.handlers.iv := by
        have := cut_cut hget (a := 7) (b := 1) (by omega)
        simp at this
        exact cut_one this
      have l7 := reads_len o.handlers.ok
      refine ⟨.normal, ⟨0, [(0, .imm (.slice row off xs.length cap)), (3, int64 (IntKind.wrap .i64 (m + o.handlers.xs.length))), (4, int64 ((i : Int) + 1))], []⟩, ?_, .inl ⟨rfl, n - 1, by omega, i + 1, (IntKind.wrap .i64 (m + o.handlers.xs.length)), by omega, by simp -implicitDefEqProofs []⟩⟩
      simp -implicitDefEqProofs [x468L1, hlt, hg2, l7, e1]
    · have : ¬ ((i : Int) < xs.length) := by omega
      refine ⟨.exit 0, ⟨0, [(0, .imm iv), (3, int64 m), (4, int64 (i : Int)), (8, avb false)], []⟩, ?_, .inr ⟨by simp, rfl, m, i, rfl⟩⟩
      simp -implicitDefEqProofs [x468L1, hlen, this]
  obtain ⟨e, s', h1, _, rfl, m, x, rfl⟩ := loop
  obtain ⟨k, hk⟩ := size340 hr
  obtain ⟨b, hb⟩ := beyond_one k (some 1)
  unfold run9 at *
  rw [callW_fun code9 (extInsert 766) (rfl : code9 468 = some x468)]
  by_cases hm : m > 300
  · refine ⟨true, ?_⟩
    simp -implicitDefEqProofs [x468, hlen, h1, hm]
  · refine ⟨b, ?_⟩
    simp -implicitDefEqProofs [x468, hlen, h1, hm, hk, hb]

end Go.EX
