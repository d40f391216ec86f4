import Derived.Test.YtfmpeoickjggiaaGreatDoorV9b
set_option linter.unusedVariables false
set_option linter.unusedSimpArgs false
namespace Go.EX
theorem size304 {iv : IV} {xs : List Cap} (hr : Reads tCap iv xs) : run9 304 [.imm iv] [] = some (int64 xs.length, []) := by
  unfold run9
  rw [callW_fun code9 (extInsert 766) (rfl : code9 304 = some x304)]
  simp -implicitDefEqProofs [x304, reads_len hr]
theorem size318 {iv : IV} {xs : List Ins} (hr : Reads tIns iv xs) : run9 318 [.imm iv] [] = some (int64 xs.length, []) := by
  unfold run9
  rw [callW_fun code9 (extInsert 766) (rfl : code9 318 = some x318)]
  simp -implicitDefEqProofs [x318, reads_len hr]
theorem size319 {iv : IV} {xs : List Int} (hr : Reads (tInt .i64) iv xs) : run9 319 [.imm iv] [] = some (int64 xs.length, []) := by
  unfold run9
  rw [callW_fun code9 (extInsert 766) (rfl : code9 319 = some x319)]
  simp -implicitDefEqProofs [x319, reads_len hr]
theorem size314 {iv : IV} {xs : List Handler} (hr : Reads tHandler iv xs) : run9 314 [.imm iv] [] = some (int64 xs.length, []) := by
  unfold run9
  rw [callW_fun code9 (extInsert 766) (rfl : code9 314 = some x314)]
  simp -implicitDefEqProofs [x314, reads_len hr]
def sumGo : Int → List Int → Int
  | m, [] => m
  | m, x :: r => if m ≤ 1048576 then sumGo (m + x) r else m
theorem sumGo_ge : ∀ (l : List Int) (m : Int), (∀ x ∈ l, 0 ≤ x) → m ≤ sumGo m l
  | [], m, _ => Int.le_refl _
  | x :: r, m, h => by
    rw [sumGo]
    split
    · have := sumGo_ge r (m + x) fun y hy => h y (List.mem_cons_of_mem _ hy)
      have := h x (List.mem_cons_self ..)
      omega
    · exact Int.le_refl _
theorem sumGo_le : ∀ (l : List Int) (m b c : Int), (∀ x ∈ l, x ≤ b) → m ≤ c → 1048576 + b ≤ c → sumGo m l ≤ c
  | [], m, b, c, _, h, _ => h
  | x :: r, m, b, c, h, h1, h2 => by
    rw [sumGo]
    split
    · have := h x (List.mem_cons_self ..)
      exact sumGo_le r (m + x) b c (fun y hy => h y (List.mem_cons_of_mem _ hy)) (by omega) h2
    · exact h1
theorem sumGo_mem : ∀ (l : List Int) (m : Int), 0 ≤ m → (∀ x ∈ l, 0 ≤ x) → sumGo m l ≤ 1048576 → ∀ x ∈ l, x ≤ 1048576
  | [], m, _, _, _, x, hx => by cases hx
  | y :: r, m, h0, h, h1, x, hx => by
    have hy := h y (List.mem_cons_self ..)
    have hr := fun z hz => h z (List.mem_cons_of_mem _ hz)
    rw [sumGo] at h1
    split at h1
    · have := sumGo_ge r (m + y) hr
      rcases List.mem_cons.1 hx with rfl | hx
      · omega
      · exact sumGo_mem r (m + y) (by omega) hr h1 x hx
    · omega
def szConsts (xs : List Const) : Int := sumGo xs.length (xs.map fun c => (c.s.size : Int))
theorem szConsts_bd {xs : List Const} (hl : xs.length ≤ 140737488355328) (hw : ∀ c ∈ xs, tConst.wf c) : (xs.length : Int) ≤ szConsts xs ∧ szConsts xs ≤ 140737489403904 :=
  ⟨sumGo_ge _ _ fun x hx => by obtain ⟨c, _, rfl⟩ := List.mem_map.1 hx; omega,
   sumGo_le _ _ 140737488355328 _ (fun x hx => by obtain ⟨c, hc, rfl⟩ := List.mem_map.1 hx; have : c.s.size ≤ 140737488355328 := (hw c hc).2.2; omega) (by omega) (by omega)⟩
theorem size305 {iv : IV} {xs : List Const} (hr : Reads tConst iv xs) : run9 305 [.imm iv] [] = some (int64 (szConsts xs), []) := by
  have hlen := reads_len hr
  have hb := hr.2.1
  have loop : ∃ e s', den code9 (extInsert 766) (.loop [0, 3, 4] x305L1) ⟨0, [(0, .imm iv), (3, int64 xs.length), (4, int64 0)], []⟩ = some (e, s') ∧ e ≠ .normal ∧
      (e = .exit 0 ∧ s'.k = 0 ∧ s'.mem = [] ∧ s'.env.get 3 = int64 (szConsts xs)) := by
    refine loop_rule (fun n s => ∃ (i : Nat) (m : Int), i + n = xs.length ∧ 0 ≤ m ∧ m ≤ 140737489403904 ∧ szConsts xs = sumGo m ((xs.drop i).map fun c => (c.s.size : Int)) ∧ s.tidy [0, 3, 4] = ⟨0, [(0, .imm iv), (3, int64 m), (4, int64 (i : Nat))], []⟩) _ ?_ xs.length _ ⟨0, xs.length, by simp, by omega, by omega, rfl, by simp -implicitDefEqProofs []⟩
    rintro n s ⟨i, m, hi, hm0, hm1, hg, hs⟩
    rw [hs]
    by_cases hlt : i < xs.length
    · obtain ⟨row, off, cap, rfl, hc, hcut, hget⟩ := reads_pos hr (List.getElem?_eq_getElem hlt)
      have e1 : IntKind.wrap .i64 ((i : Int) + 1) = (i : Int) + 1 := wrapI64 (by omega) (by omega)
      rw [List.drop_eq_getElem_cons hlt, List.map_cons, sumGo] at hg
      have hw := hr.1 _ (List.getElem_mem hlt)
      generalize xs[i] = o at hget hg hw
      have hos : o.s.size ≤ 140737488355328 := hw.2.2
      simp only [tConst] at hget
      have hg2 : row[off + i * 3 + 2]? = some (.val (.string o.s)) := by
        have := cut_cut hget (a := 2) (b := 1) (by omega)
        simp at this
        exact cut_one this
      by_cases hc2 : m ≤ 1048576
      · rw [if_pos hc2] at hg
        have e2 : IntKind.wrap .i64 (m + o.s.size) = m + o.s.size := wrapI64 (by omega) (by omega)
        refine ⟨.normal, ⟨0, [(0, .imm (.slice row off xs.length cap)), (3, int64 (m + o.s.size)), (4, int64 ((i : Int) + 1))], []⟩, ?_, .inl ⟨rfl, n - 1, by omega, i + 1, m + o.s.size, by omega, by omega, by omega, hg, by simp -implicitDefEqProofs []⟩⟩
        simp -implicitDefEqProofs [x305L1, hlt, hg2, hc2, e1, e2]
      · rw [if_neg hc2] at hg
        refine ⟨.exit 0, ⟨0, [(0, .imm (.slice row off xs.length cap)), (3, int64 m), (4, int64 (i : Int)), (14, avb false)], []⟩, ?_, .inr ⟨by simp, rfl, rfl, rfl, by rw [hg]; simp⟩⟩
        simp -implicitDefEqProofs [x305L1, hlt, hc2]
    · have : ¬ ((i : Int) < xs.length) := by omega
      refine ⟨.exit 0, ⟨0, [(0, .imm iv), (3, int64 m), (4, int64 (i : Int)), (14, avb false)], []⟩, ?_, .inr ⟨by simp, rfl, rfl, rfl, by rw [hg, List.drop_eq_nil_of_le (by omega)]; simp [sumGo]⟩⟩
      simp -implicitDefEqProofs [x305L1, hlen, this]
  obtain ⟨e, s', h1, _, rfl, h3, h4, h5⟩ := loop
  unfold run9
  rw [callW_fun code9 (extInsert 766) (rfl : code9 305 = some x305)]
  simp -implicitDefEqProofs [x305, hlen, h1, h3, h4, h5]
def szFn (f : Fn) : Int := sumGo (1 + (f.name.size : Int)) [f.caps.xs.length, szConsts f.consts.xs, f.code.xs.length, f.lines.xs.length, f.handlers.xs.length]
theorem szFn_all (f : Fn) : ∀ x ∈ [(f.caps.xs.length : Int), szConsts f.consts.xs, f.code.xs.length, f.lines.xs.length, f.handlers.xs.length], 0 ≤ x ∧ x ≤ 140737489403904 := by
  have h1 := f.caps.ok.2.1
  have h2 := szConsts_bd f.consts.ok.2.1 f.consts.ok.1
  have h3 := f.code.ok.2.1
  have h4 := f.lines.ok.2.1
  have h5 := f.handlers.ok.2.1
  intro x hx
  simp only [List.mem_cons, List.not_mem_nil, or_false] at hx
  omega
theorem szFn_bd {f : Fn} (hw : tFn.wf f) : 1 ≤ szFn f ∧ szFn f ≤ 140737490452480 := by
  have hn : f.name.size ≤ 140737488355328 := hw.1
  have h := szFn_all f
  have h1 := sumGo_ge _ (1 + (f.name.size : Int)) fun x hx => (h x hx).1
  have h2 := sumGo_le _ (1 + (f.name.size : Int)) 140737489403904 140737490452480 (fun x hx => (h x hx).2) (by omega) (by omega)
  unfold szFn
  exact ⟨by omega, h2⟩
theorem size312 (f : Fn) (hw : tFn.wf f) : run9 312 [fnAV f] [] = some (int64 (szFn f), []) := by
  have h1 := size304 f.caps.ok
  have h2 := size305 f.consts.ok
  have h3 := size318 f.code.ok
  have h4 := size319 f.lines.ok
  have h5 := size314 f.handlers.ok
  have hn : f.name.size ≤ 140737488355328 := hw.1
  have b1 := f.caps.ok.2.1
  have b2 := szConsts_bd f.consts.ok.2.1 f.consts.ok.1
  have b3 := f.code.ok.2.1
  have b4 := f.lines.ok.2.1
  have b5 := f.handlers.ok.2.1
  unfold run9 at *
  rw [callW_fun code9 (extInsert 766) (rfl : code9 312 = some x312)]
  unfold szFn
  generalize hZ : szConsts f.consts.xs = Z at *
  have e0 : IntKind.wrap .i64 (1 + (f.name.size : Int)) = 1 + f.name.size := wrapI64 (by omega) (by omega)
  by_cases c1 : 1 + (f.name.size : Int) ≤ 1048576
  · have e1 : IntKind.wrap .i64 (1 + (f.name.size : Int) + (f.caps.xs.length : Int)) = 1 + (f.name.size : Int) + (f.caps.xs.length : Int) := wrapI64 (by omega) (by omega)
    by_cases c2 : 1 + (f.name.size : Int) + (f.caps.xs.length : Int) ≤ 1048576
    · have e2 : IntKind.wrap .i64 (1 + (f.name.size : Int) + (f.caps.xs.length : Int) + Z) = 1 + (f.name.size : Int) + (f.caps.xs.length : Int) + Z := wrapI64 (by omega) (by omega)
      by_cases c3 : 1 + (f.name.size : Int) + (f.caps.xs.length : Int) + Z ≤ 1048576
      · have e3 : IntKind.wrap .i64 (1 + (f.name.size : Int) + (f.caps.xs.length : Int) + Z + (f.code.xs.length : Int)) = 1 + (f.name.size : Int) + (f.caps.xs.length : Int) + Z + (f.code.xs.length : Int) := wrapI64 (by omega) (by omega)
        by_cases c4 : 1 + (f.name.size : Int) + (f.caps.xs.length : Int) + Z + (f.code.xs.length : Int) ≤ 1048576
        · have e4 : IntKind.wrap .i64 (1 + (f.name.size : Int) + (f.caps.xs.length : Int) + Z + (f.code.xs.length : Int) + (f.lines.xs.length : Int)) = 1 + (f.name.size : Int) + (f.caps.xs.length : Int) + Z + (f.code.xs.length : Int) + (f.lines.xs.length : Int) := wrapI64 (by omega) (by omega)
          by_cases c5 : 1 + (f.name.size : Int) + (f.caps.xs.length : Int) + Z + (f.code.xs.length : Int) + (f.lines.xs.length : Int) ≤ 1048576
          · have e5 : IntKind.wrap .i64 (1 + (f.name.size : Int) + (f.caps.xs.length : Int) + Z + (f.code.xs.length : Int) + (f.lines.xs.length : Int) + (f.handlers.xs.length : Int)) = 1 + (f.name.size : Int) + (f.caps.xs.length : Int) + Z + (f.code.xs.length : Int) + (f.lines.xs.length : Int) + (f.handlers.xs.length : Int) := wrapI64 (by omega) (by omega)
            simp -implicitDefEqProofs [x312, h1, h2, h3, h4, h5, sumGo, e0, c1, e1, c2, e2, c3, e3, c4, e4, c5, e5]
          · simp -implicitDefEqProofs [x312, h1, h2, h3, h4, h5, sumGo, e0, c1, e1, c2, e2, c3, e3, c4, e4, c5]
        · simp -implicitDefEqProofs [x312, h1, h2, h3, h4, h5, sumGo, e0, c1, e1, c2, e2, c3, e3, c4]
      · simp -implicitDefEqProofs [x312, h1, h2, h3, h4, h5, sumGo, e0, c1, e1, c2, e2, c3]
    · simp -implicitDefEqProofs [x312, h1, h2, h3, h4, h5, sumGo, e0, c1, e1, c2]
  · simp -implicitDefEqProofs [x312, h1, h2, h3, h4, h5, sumGo, e0, c1]
def szProg (ps : List Fn) : Int := sumGo ps.length (ps.map szFn)
theorem size313 {iv : IV} {xs : List Fn} (hr : Reads tFn iv xs) : run9 313 [.imm iv] [] = some (int64 (szProg xs), []) := by
  have hlen := reads_len hr
  have hb := hr.2.1
  have loop : ∃ e s', den code9 (extInsert 766) (.loop [0, 3, 4] x313L1) ⟨0, [(0, .imm iv), (3, int64 xs.length), (4, int64 0)], []⟩ = some (e, s') ∧ e ≠ .normal ∧
      (e = .exit 0 ∧ s'.k = 0 ∧ s'.mem = [] ∧ s'.env.get 3 = int64 (szProg xs)) := by
    refine loop_rule (fun n s => ∃ (i : Nat) (m : Int), i + n = xs.length ∧ 0 ≤ m ∧ m ≤ 140737491501056 ∧ szProg xs = sumGo m ((xs.drop i).map szFn) ∧ s.tidy [0, 3, 4] = ⟨0, [(0, .imm iv), (3, int64 m), (4, int64 (i : Nat))], []⟩) _ ?_ xs.length _ ⟨0, xs.length, by simp, by omega, by omega, rfl, by simp -implicitDefEqProofs []⟩
    rintro n s ⟨i, m, hi, hm0, hm1, hg, hs⟩
    rw [hs]
    by_cases hlt : i < xs.length
    · obtain ⟨row, off, cap, rfl, hc, hcut, hget⟩ := reads_pos hr (List.getElem?_eq_getElem hlt)
      have e1 : IntKind.wrap .i64 ((i : Int) + 1) = (i : Int) + 1 := wrapI64 (by omega) (by omega)
      rw [List.drop_eq_getElem_cons hlt, List.map_cons, sumGo] at hg
      have hw := hr.1 _ (List.getElem_mem hlt)
      generalize xs[i] = o at hget hw hg
      simp only [tFn] at hget
      have hk := size312 o hw
      have hbd := szFn_bd hw
      unfold run9 fnAV at hk
      generalize szFn o = k at hk hg hbd
      by_cases hc2 : m ≤ 1048576
      · rw [if_pos hc2] at hg
        have e2 : IntKind.wrap .i64 (m + k) = m + k := wrapI64 (by omega) (by omega)
        refine ⟨.normal, ⟨0, [(0, .imm (.slice row off xs.length cap)), (3, int64 (m + k)), (4, int64 ((i : Int) + 1))], []⟩, ?_, .inl ⟨rfl, n - 1, by omega, i + 1, m + k, by omega, by omega, by omega, hg, by simp -implicitDefEqProofs []⟩⟩
        simp -implicitDefEqProofs [x313L1, hlt, hget, hc2, e1, e2, hk]
      · rw [if_neg hc2] at hg
        refine ⟨.exit 0, ⟨0, [(0, .imm (.slice row off xs.length cap)), (3, int64 m), (4, int64 (i : Int)), (14, avb false)], []⟩, ?_, .inr ⟨by simp, rfl, rfl, rfl, by rw [hg]; simp⟩⟩
        simp -implicitDefEqProofs [x313L1, hlt, hc2]
    · have : ¬ ((i : Int) < xs.length) := by omega
      refine ⟨.exit 0, ⟨0, [(0, .imm iv), (3, int64 m), (4, int64 (i : Int)), (14, avb false)], []⟩, ?_, .inr ⟨by simp, rfl, rfl, rfl, by rw [hg, List.drop_eq_nil_of_le (by omega)]; simp [sumGo]⟩⟩
      simp -implicitDefEqProofs [x313L1, hlen, this]
  obtain ⟨e, s', h1, _, rfl, h3, h4, h5⟩ := loop
  unfold run9
  rw [callW_fun code9 (extInsert 766) (rfl : code9 313 = some x313)]
  simp -implicitDefEqProofs [x313, hlen, h1, h3, h4, h5]
theorem size340 {iv : IV} {xs : List Fn} (hr : Reads tFn iv xs) : run9 340 [.imm iv] [] = some (int64 (szProg xs), []) := by
  have h := size313 hr
  unfold run9 at *
  rw [callW_fun code9 (extInsert 766) (rfl : code9 340 = some x340)]
  simp -implicitDefEqProofs [x340, h]
theorem beyond_one (n : Int) (cap : Option Nat) (h0 : -9223372036854775808 ≤ n ∧ n ≤ 9223372036854775807) : run9 303 [.imm (.slice [.val (.int .i64 n)] 0 1 cap)] [] = some (avb (decide (1048576 < n)), []) := by
  unfold run9
  have e0 : IntKind.wrap .i64 n = n := wrapI64 (by omega) (by omega)
  have e1 : IntKind.wrap .i64 (1 : Int) = 1 := wrapI64 (by omega) (by omega)
  have loop : ∃ e s', den code9 (extInsert 766) (.loop [0, 3, 4] x303L1) ⟨0, [(0, .imm (.slice [.val (.int .i64 n)] 0 1 cap)), (3, int64 0), (4, int64 0)], []⟩ = some (e, s') ∧ e ≠ .normal ∧
      ((e = .exit 0 ∧ ¬ 1048576 < n ∧ s'.k = 0 ∧ s'.mem = []) ∨ (e = .ret ∧ 1048576 < n ∧ s' = ⟨0, [(2, avb true)], []⟩)) := by
    refine loop_rule (fun k s => (k = 1 ∧ s.tidy [0, 3, 4] = ⟨0, [(0, .imm (.slice [.val (.int .i64 n)] 0 1 cap)), (3, int64 0), (4, int64 0)], []⟩) ∨ (k = 0 ∧ ¬ 1048576 < n ∧ s.tidy [0, 3, 4] = ⟨0, [(0, .imm (.slice [.val (.int .i64 n)] 0 1 cap)), (3, int64 n), (4, int64 1)], []⟩)) _ ?_ 1 _ (.inl ⟨rfl, by simp -implicitDefEqProofs []⟩)
    rintro k s (⟨rfl, hs⟩ | ⟨rfl, hm, hs⟩)
    · rw [hs]
      by_cases h : 1048576 < n
      · refine ⟨.ret, ⟨0, [(2, avb true)], []⟩, ?_, .inr ⟨by simp, .inr ⟨rfl, h, rfl⟩⟩⟩
        simp -implicitDefEqProofs [x303L1, h, e0]
      · refine ⟨.normal, ⟨0, [(0, .imm (.slice [.val (.int .i64 n)] 0 1 cap)), (3, int64 n), (4, int64 1)], []⟩, ?_, .inl ⟨rfl, 0, by omega, .inr ⟨rfl, h, by simp -implicitDefEqProofs []⟩⟩⟩
        simp -implicitDefEqProofs [x303L1, h, e0, e1]
    · rw [hs]
      refine ⟨.exit 0, ⟨0, [(0, .imm (.slice [.val (.int .i64 n)] 0 1 cap)), (3, int64 n), (4, int64 1), (8, avb false)], []⟩, ?_, .inr ⟨by simp, .inl ⟨rfl, hm, rfl, rfl⟩⟩⟩
      simp -implicitDefEqProofs [x303L1]
  rw [callW_fun code9 (extInsert 766) (rfl : code9 303 = some x303)]
  obtain ⟨e, s', h1, _, ⟨rfl, hn, h3, h4⟩ | ⟨rfl, hn, rfl⟩⟩ := loop
  · simp -implicitDefEqProofs [x303, h1, h3, h4, hn]
  · simp -implicitDefEqProofs [x303, h1, hn]
theorem szProg_bd {xs : List Fn} (hl : xs.length ≤ 140737488355328) (hw : ∀ f ∈ xs, tFn.wf f) : (xs.length : Int) ≤ szProg xs ∧ szProg xs ≤ 140737491501056 :=
  ⟨sumGo_ge _ _ fun x hx => by obtain ⟨c, hc, rfl⟩ := List.mem_map.1 hx; have := szFn_bd (hw c hc); omega,
   sumGo_le _ _ 140737490452480 _ (fun x hx => by obtain ⟨c, hc, rfl⟩ := List.mem_map.1 hx; have := szFn_bd (hw c hc); omega) (by omega) (by omega)⟩
theorem great9 {iv : IV} {xs : List Fn} (hr : Reads tFn iv xs) : ∃ b, run9 468 [.imm iv] [] = some (avb b, []) ∧ (b = false → szProg xs ≤ 1048576) := by
  have hlen := reads_len hr
  have hb := hr.2.1
  have loop : ∃ e s', den code9 (extInsert 766) (.loop [0, 3, 4] x468L1) ⟨0, [(0, .imm iv), (3, int64 0), (4, int64 0)], []⟩ = some (e, s') ∧ e ≠ .normal ∧
      (e = .exit 0 ∧ ∃ n x, s' = ⟨0, [(0, .imm iv), (3, int64 n), (4, int64 x), (8, avb false)], []⟩) := by
    refine loop_rule (fun n s => ∃ (i : Nat) (m : Int), i + n = xs.length ∧ s.tidy [0, 3, 4] = ⟨0, [(0, .imm iv), (3, int64 m), (4, int64 (i : Nat))], []⟩) _ ?_ xs.length _ ⟨0, 0, by simp, by simp -implicitDefEqProofs []⟩
    rintro n s ⟨i, m, hi, hs⟩
    rw [hs]
    by_cases hlt : i < xs.length
    · obtain ⟨row, off, cap, rfl, hc, hcut, hget⟩ := reads_pos hr (List.getElem?_eq_getElem hlt)
      have e1 : IntKind.wrap .i64 ((i : Int) + 1) = (i : Int) + 1 := wrapI64 (by omega) (by omega)
      generalize xs[i] = o at hget
      simp only [tFn] at hget
      have hg2 : row[off + i * 8 + 7]? = some o.handlers.iv := by
        have := cut_cut hget (a := 7) (b := 1) (by omega)
        simp at this
        exact cut_one this
      have l7 := reads_len o.handlers.ok
      refine ⟨.normal, ⟨0, [(0, .imm (.slice row off xs.length cap)), (3, int64 (IntKind.wrap .i64 (m + o.handlers.xs.length))), (4, int64 ((i : Int) + 1))], []⟩, ?_, .inl ⟨rfl, n - 1, by omega, i + 1, (IntKind.wrap .i64 (m + o.handlers.xs.length)), by omega, by simp -implicitDefEqProofs []⟩⟩
      simp -implicitDefEqProofs [x468L1, hlt, hg2, l7, e1]
    · have : ¬ ((i : Int) < xs.length) := by omega
      refine ⟨.exit 0, ⟨0, [(0, .imm iv), (3, int64 m), (4, int64 (i : Int)), (8, avb false)], []⟩, ?_, .inr ⟨by simp, rfl, m, i, rfl⟩⟩
      simp -implicitDefEqProofs [x468L1, hlen, this]
  obtain ⟨e, s', h1, _, rfl, m, x, rfl⟩ := loop
  have hk := size340 hr
  have hbd := szProg_bd hr.2.1 hr.1
  have hb := beyond_one (szProg xs) (some 1) (by omega)
  unfold run9 at *
  rw [callW_fun code9 (extInsert 766) (rfl : code9 468 = some x468)]
  by_cases hm : m > 300
  · refine ⟨true, ?_, fun h => by cases h⟩
    simp -implicitDefEqProofs [x468, hlen, h1, hm]
  · refine ⟨decide (1048576 < szProg xs), ?_, fun h => by simp at h; omega⟩
    simp -implicitDefEqProofs [x468, hlen, h1, hm, hk, hb]
structure Small (f : Fn) : Prop where
  name : f.name.size ≤ 1048576
  caps : f.caps.xs.length ≤ 1048576
  consts : f.consts.xs.length ≤ 1048576
  code : f.code.xs.length ≤ 1048576
  lines : f.lines.xs.length ≤ 1048576
  handlers : f.handlers.xs.length ≤ 1048576
theorem small_of {xs : List Fn} (hl : xs.length ≤ 140737488355328) (hw : ∀ f ∈ xs, tFn.wf f) (h : szProg xs ≤ 1048576) : xs.length ≤ 1048576 ∧ ∀ f ∈ xs, Small f := by
  have hbd := szProg_bd hl hw
  refine ⟨by omega, fun f hf => ?_⟩
  have h1 : szFn f ≤ 1048576 := sumGo_mem _ _ (by omega) (fun x hx => by obtain ⟨c, hc, rfl⟩ := List.mem_map.1 hx; have := szFn_bd (hw c hc); omega) h (szFn f) (List.mem_map.2 ⟨f, hf, rfl⟩)
  have h2 := szFn_all f
  have h3 := sumGo_mem _ _ (by omega) (fun x hx => (h2 x hx).1) h1
  have h4 := sumGo_ge _ (1 + (f.name.size : Int)) fun x hx => (h2 x hx).1
  have h5 := szConsts_bd f.consts.ok.2.1 f.consts.ok.1
  unfold szFn at h1
  have a1 := h3 f.caps.xs.length (by simp)
  have a2 := h3 (szConsts f.consts.xs) (by simp)
  have a3 := h3 f.code.xs.length (by simp)
  have a4 := h3 f.lines.xs.length (by simp)
  have a5 := h3 f.handlers.xs.length (by simp)
  exact ⟨by omega, by omega, by omega, by omega, by omega, by omega⟩
end Go.EX

