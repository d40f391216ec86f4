/-
  EX: law 09: VerifyRuns: however code goes on, its stack is as deep as was told.
-/
import Derived.Test.YtfmpeoickjggiaaV9w
set_option linter.unusedVariables false
set_option linter.unusedSimpArgs false
namespace Go.EX

theorem run_round {cv tv : IV} {cs T : List Int} (hc : Reads (tInt .u8) cv cs) (hT : Reads (tInt .i64) tv T) (f : Fn) {np : Nat} (hf : FnOk np f) (hcl : Closed f T []) (hTl : T.length = f.code.xs.length) (hTb : ∀ x ∈ T, -1 ≤ x ∧ x ≤ 256) (hn : 0 < cs.length)
    (pc i : Nat) (d : Int) (hd : T[pc]? = some d) (h0 : 0 ≤ d) (hi : i < 300) :
    ∃ e s', den code9 (extInsert 766) x465L2 ⟨0, vEnv cv tv pc d i, vMem f⟩ = some (e, s') ∧
      ((e = .ret ∧ ∃ mem, s' = ⟨0, [(6, avb true)], mem⟩) ∨ (e = .normal ∧ ∃ (pc' : Nat) (d' : Int), T[pc']? = some d' ∧ 0 ≤ d' ∧ s'.tidy [2, 7, 9, 10, 11, 12] = ⟨0, vEnv cv tv pc' d' (i + 1 : Nat), vMem f⟩)) := by
  have hlt2 := (List.getElem?_eq_some_iff.1 hd).1
  have hb := (hTb d (List.mem_of_getElem? hd)).2
  have hx := List.getElem?_eq_getElem (show pc < f.code.xs.length by omega)
  generalize f.code.xs[pc] = x at hx
  have hcc := List.getElem?_eq_getElem (Nat.mod_lt i hn)
  generalize cs[i % cs.length]'(Nat.mod_lt i hn) = c at hcc
  have hg := hcl pc d x hd h0 (by simp) hx
  have e1 : IntKind.wrap .i64 ((i : Int) + 1) = (i : Int) + 1 := wrapI64 (by omega) (by omega)
  have e2 : ((i : Int) + 1) = ((i + 1 : Nat) : Int) := by omega
  rw [x465L2_eq, den_seq, run_A, if_pos hi]
  simp only [andThen]
  rw [den_seq, den_block, run_pre hc hT f pc i x d c hd ⟨h0, hb⟩ hx hn hcc]
  rw [den_seq]
  have hI : ∀ (pc' : Nat) (d' : Int) (mem : Mem), mem = vMem f ∨ mem = vMemI f x → T[pc']? = some d' → 0 ≤ d' → ∃ e s', den code9 (extInsert 766) v9I ⟨0, vEnv cv tv pc' d' i, mem⟩ = some (e, s') ∧
      ((e = .ret ∧ ∃ mem, s' = ⟨0, [(6, avb true)], mem⟩) ∨ (e = .normal ∧ ∃ (pc' : Nat) (d' : Int), T[pc']? = some d' ∧ 0 ≤ d' ∧ s'.tidy [2, 7, 9, 10, 11, 12] = ⟨0, vEnv cv tv pc' d' (i + 1 : Nat), vMem f⟩)) := by
    intro pc' d' mem hm h1 h2
    refine ⟨.normal, ⟨0, vEnv cv tv pc' d' ((i : Int) + 1), mem⟩, ?_, .inr ⟨rfl, pc', d', h1, h2, ?_⟩⟩
    · rcases hm with rfl | rfl <;> simp -implicitDefEqProofs [v9I, vMem, vMemI, fnCells, e1]
    · rcases hm with rfl | rfl <;> simp -implicitDefEqProofs [v9I, vMem, vMemI, fnCells, e1]
  obtain ⟨e, s', h1, ⟨rfl, mem, rfl⟩ | ⟨rfl, h, hm, hbb, rfl⟩ | ⟨rfl, h29, rfl⟩⟩ := run_B4 cv tv f pc i x d c hf.hand
  · rw [h1]
    exact ⟨.ret, _, rfl, .inl ⟨rfl, mem, rfl⟩⟩
  · rw [h1]
    have h2 := (hg.hand h hm hbb).2
    have hok := handOk_at (hf.hand h hm)
    obtain ⟨q, hq⟩ : ∃ q : Nat, h.at' = q := ⟨h.at'.toNat, by omega⟩
    rw [hq] at h2 ⊢
    rw [Int.toNat_natCast] at h2
    simp only [andThen, blockOut, if_true]
    exact hI q (h.deep + 1) _ (.inl rfl) h2 (by omega)
  · rw [h1]
    simp only [andThen]
    obtain ⟨e, s', h2, ⟨rfl, mem, rfl⟩ | ⟨he, pc', d', h3, h4, rfl⟩⟩ := run_SW (c := c) (i := i) cv tv f hf hx hg ⟨h0, hb⟩ h29
    · rw [h2]
      exact ⟨.ret, _, rfl, .inl ⟨rfl, mem, rfl⟩⟩
    · rw [h2]
      rcases he with rfl | rfl
      · simp only [andThen, blockOut]
        exact hI pc' d' _ (.inr rfl) h3 h4
      · simp only [andThen, blockOut, if_true]
        exact hI pc' d' _ (.inr rfl) h3 h4

theorem run_loop {cv tv : IV} {cs T : List Int} (hc : Reads (tInt .u8) cv cs) (hT : Reads (tInt .i64) tv T) (f : Fn) {np : Nat} (hf : FnOk np f) (hcl : Closed f T []) (hTl : T.length = f.code.xs.length) (hTb : ∀ x ∈ T, -1 ≤ x ∧ x ≤ 256) (hn : 0 < cs.length)
    (h00 : T[0]? = some 0) {st : St} (hst : st.tidy [2, 7, 9, 10, 11, 12] = ⟨0, vEnv cv tv 0 0 0, vMem f⟩) :
    ∃ e s', den code9 (extInsert 766) (.loop [2, 7, 9, 10, 11, 12] x465L2) st = some (e, s') ∧ e ≠ .normal ∧ ((e = .ret ∧ ∃ mem, s' = ⟨0, [(6, avb true)], mem⟩) ∨ (e = .exit 0 ∧ s'.k = 0)) := by
  refine loop_rule (fun n s => ∃ (i pc : Nat) (d : Int), i + n = 300 ∧ T[pc]? = some d ∧ 0 ≤ d ∧ s.tidy [2, 7, 9, 10, 11, 12] = ⟨0, vEnv cv tv pc d i, vMem f⟩) _ ?_ 300 _ ⟨0, 0, 0, by omega, h00, by omega, hst⟩
  clear hst
  rintro n s ⟨i, pc, d, hi, hd, h0, hst⟩
  rw [hst]
  by_cases h : i < 300
  · obtain ⟨e, s', h1, ⟨rfl, mem, rfl⟩ | ⟨rfl, pc', d', h2, h3, h4⟩⟩ := run_round hc hT f hf hcl hTl hTb hn pc i d hd h0 h
    · exact ⟨_, _, h1, .inr ⟨by simp, .inl ⟨rfl, mem, rfl⟩⟩⟩
    · exact ⟨_, _, h1, .inl ⟨rfl, n - 1, by omega, i + 1, pc', d', by omega, h2, h3, h4⟩⟩
  · refine ⟨.exit 0, ⟨0, vEnv cv tv pc d i ++ [(46, avb false)], vMem f⟩, ?_, .inr ⟨by simp, .inr ⟨rfl, rfl⟩⟩⟩
    rw [x465L2_eq, den_seq, run_A, if_neg h]
    rfl

/-- What is told of all places fits. -/
theorem depthsR_closed {np : Nat} {f : Fn} (hf : FnOk np f) {T : List Int} {z : Int} (h : depthsR f = (some T, z)) : Closed f T [] ∧ T.length = f.code.xs.length ∧ (∀ x ∈ T, -1 ≤ x ∧ x ≤ 256) ∧ T[0]? = some 0 := by
  unfold depthsR at h
  have h1 := hf.some
  have hnem : 0 < f.code.xs.length := h1
  have hs : DOk f.code.xs.length ⟨(List.replicate f.code.xs.length (-1)).set 0 0, [0], true⟩ := by
    refine ⟨by simp, ⟨by simp, fun x hx => by simp at hx; omega⟩, fun p hpm => ?_, fun x hx => ?_⟩
    · have hp0 : p = 0 := by simpa using hpm
      subst hp0
      exact ⟨0, by rw [List.getElem?_set]; simp [hnem], Int.le_refl _⟩
    · rcases List.mem_or_eq_of_mem_set hx with h | h
      · have := (List.mem_replicate.1 h).2; omega
      · omega
  have hcl : Closed f ((List.replicate f.code.xs.length (-1)).set 0 0) [0] := by
    intro pc v i hv hv0 hno hi
    exfalso
    simp at hno
    rw [List.getElem?_set, if_neg (by omega)] at hv
    have := List.mem_of_getElem? hv
    rw [List.mem_replicate] at this
    omega
  have hm : meas ⟨(List.replicate f.code.xs.length (-1)).set 0 0, [0], true⟩ ≤ f.code.xs.length := by
    have := countP_set (List.replicate f.code.xs.length (-1)) 0 (-1) 0 (by rw [List.getElem?_replicate]; simp [hnem]) (by omega) (by omega)
    have h2 : (List.replicate f.code.xs.length (-1 : Int)).countP (fun x => decide (x < 0)) = f.code.xs.length := by rw [List.countP_replicate]; simp
    simp only [meas, List.length_singleton]
    omega
  obtain ⟨r1, r2, r3, r4⟩ := runD_closed hf _ _ _ hs hcl hm T z h
  exact ⟨r1, r2, r3, r4 0 0 (by rw [List.getElem?_set]; simp [hnem]) (by omega)⟩

set_option maxRecDepth 100000 in
/-- VerifyRuns holds. -/
theorem verifyRuns_ok {pv cv : IV} {ps : List Fn} {cs : List Int} (hp : Reads tFn pv ps) (hc : Reads (tInt .u8) cv cs) (fn : Int) (hfn : -9223372036854775808 ≤ fn ∧ fn ≤ 9223372036854775807) :
    ∃ m, run9 465 [.imm pv, int64 fn, .imm cv] [] = some (avb true, m) := by
  have lc := reads_len hc
  have ha := alive9
  obtain ⟨g, hg⟩ := great9 hp
  refine ⟨[], ?_⟩
  have hd := depths_spec9 hp fn hfn
  unfold run9 at *
  rw [callW_fun code9 (extInsert 766) (rfl : code9 465 = some x465)]
  cases g with
  | true => simp -implicitDefEqProofs [x465, ha, hg, frz_flat]
  | false =>
    by_cases h0 : cs.length = 0
    · simp -implicitDefEqProofs [x465, ha, hg, lc, h0, frz_flat]
    · have h0i : ((cs.length : Int) = 0) = False := eq_false (by omega)
      rcases hd with ⟨z, e, he, _, h1⟩ | ⟨ms, z, f, T, mv, hl, hfn0, hf, hT, hTl, h1⟩
      · simp -implicitDefEqProofs [x465, ha, hg, lc, h0, h0i, h1, he, frz_flat]
      · obtain ⟨k, rfl⟩ : ∃ k : Nat, fn = k := ⟨fn.toNat, by omega⟩
        rw [Int.toNat_natCast] at hf
        have hok := (lookR_all hl hf).1
        obtain ⟨c1, c2, c3, c4⟩ := depthsR_closed hok hT
        have hlt := (List.getElem?_eq_some_iff.1 hf).1
        have hlti : ((k : Int) < ps.length) := by omega
        have hTr : Reads (tInt .i64) (.slice (rowI T) 0 T.length none) T := reads_row _ _ (fun x hx => by have := c3 x hx; exact wfI64.2 (by omega)) (by have := hok.few; omega) (fun c h => by cases h)
        obtain ⟨row, off, cap, rfl, _, _, hget⟩ := reads_pos hp hf
        simp only [tFn] at hget
        have hloop : ∃ e s', den code9 (extInsert 766) (.loop [2, 7, 9, 10, 11, 12] x465L2) ⟨0, [(2, .imm cv), (7, .imm (.slice (rowI T) 0 T.length none)), (9, .optr 0 0), (10, int64 0), (11, int64 0), (12, int64 0)],
            [.rich [.imm (.val (.string f.name)), int64 f.params, int64 f.locals, .imm f.caps.iv, .imm f.consts.iv, .imm f.code.iv, .imm f.lines.iv, .imm f.handlers.iv]]⟩ = some (e, s') ∧ e ≠ .normal ∧ ((e = .ret ∧ ∃ mem, s' = ⟨0, [(6, avb true)], mem⟩) ∨ (e = .exit 0 ∧ s'.k = 0)) :=
          run_loop hc hTr f hok c1 c2 c3 (by omega) c4 (by simp -implicitDefEqProofs [vMem, fnCells])
        obtain ⟨e, s', h2, _, ⟨rfl, mem, rfl⟩ | ⟨rfl, hk⟩⟩ := hloop
        · simp -implicitDefEqProofs [x465, ha, hg, lc, h0, h0i, h1, hlt, hlti, hget, h2, frz_flat]
        · simp -implicitDefEqProofs [x465, ha, hg, lc, h0, h0i, h1, hlt, hlti, hget, h2, hk, frz_flat]

end Go.EX
