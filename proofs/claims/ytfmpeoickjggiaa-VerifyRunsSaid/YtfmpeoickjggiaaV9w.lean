/-
  EX: law 09: VerifyRuns: a round.
-/
import Derived.Test.YtfmpeoickjggiaaV9v
set_option linter.unusedVariables false
set_option linter.unusedSimpArgs false
namespace Go.EX

set_option maxRecDepth 100000 in
theorem run_B4 (cv tv : IV) (f : Fn) (pc i : Nat) (x : Ins) (d c : Int) (hh : ∀ h ∈ f.handlers.xs, handOk f.code.xs.length h = true) :
    ∃ e s', den code9 (extInsert 766) v9B4 ⟨0, vEnv cv tv pc d i ++ [(13, .optr 1 0), (14, .imm (.val (.int .u8 c)))], vMemI f x⟩ = some (e, s') ∧
      ((e = .ret ∧ ∃ mem, s' = ⟨0, [(6, avb true)], mem⟩) ∨ (e = .exit 1 ∧ ∃ h ∈ f.handlers.xs, isB pc h.fr h.to = true ∧ s' = ⟨0, vEnv cv tv h.at' (h.deep + 1) i, vMem f⟩) ∨
        (e = .normal ∧ x.op ≠ 29 ∧ s' = ⟨0, vEnv cv tv pc d i ++ [(13, .optr 1 0), (14, .imm (.val (.int .u8 c))), (93, avb false)], vMemI f x⟩)) := by
  have hcatch : ∃ e s', den code9 (extInsert 766) (.loop [2, 7, 9, 10, 11, 12, 15, 16] x465L1) ⟨0, [(2, .imm cv), (7, .imm tv), (9, .optr 0 0), (10, int64 pc), (11, int64 d), (12, int64 i), (15, int64 (-1)), (16, int64 0)],
      [.rich [.imm (.val (.string f.name)), int64 f.params, int64 f.locals, .imm f.caps.iv, .imm f.consts.iv, .imm f.code.iv, .imm f.lines.iv, .imm f.handlers.iv], .rich [.imm (.val (.int .u8 x.op)), int64 x.a]]⟩ = some (e, s') ∧ e ≠ .normal ∧
      (e = .exit 2 ∧ ∃ at' d' k, Caught f pc d at' d' ∧ s' = ⟨0, vEnv cv tv pc d' i ++ [(15, int64 at'), (16, int64 k), (102, avb false)], vMem f⟩) :=
    catch_loop cv tv f pc i d hh (by simp -implicitDefEqProofs [vMem, fnCells])
  obtain ⟨e, s', h1, _, rfl, at', d', k, hc, rfl⟩ := hcatch
  have fin : ∀ (_ : c.tmod 8 = 0 ∨ x.op = 29), ∃ e s', den code9 (extInsert 766) v9B4 ⟨0, vEnv cv tv pc d i ++ [(13, .optr 1 0), (14, .imm (.val (.int .u8 c)))], vMemI f x⟩ = some (e, s') ∧
      ((e = .ret ∧ ∃ mem, s' = ⟨0, [(6, avb true)], mem⟩) ∨ (e = .exit 1 ∧ ∃ h ∈ f.handlers.xs, isB pc h.fr h.to = true ∧ s' = ⟨0, vEnv cv tv h.at' (h.deep + 1) i, vMem f⟩) ∨
        (e = .normal ∧ x.op ≠ 29 ∧ s' = ⟨0, vEnv cv tv pc d i ++ [(13, .optr 1 0), (14, .imm (.val (.int .u8 c))), (93, avb false)], vMemI f x⟩)) := by
    intro hor
    rcases hc with ⟨rfl, rfl⟩ | ⟨h, hm, hb, rfl, rfl⟩
    · refine ⟨.ret, ⟨0, [(6, avb true)], vMem f⟩, ?_, .inl ⟨rfl, _, rfl⟩⟩
      simp only [vMemI, vMem, fnCells] at h1 ⊢
      by_cases q : c.tmod 8 = 0
      · simp -implicitDefEqProofs [v9B4, h1, q]
      · have q2 : x.op = 29 := hor.resolve_left q
        rw [q2] at h1 ⊢
        simp -implicitDefEqProofs [v9B4, h1, q]
    · have hok := handOk_at (hh h hm)
      have hneg : ¬ h.at' < 0 := by omega
      refine ⟨.exit 1, ⟨0, vEnv cv tv h.at' (h.deep + 1) i, vMem f⟩, ?_, .inr (.inl ⟨rfl, h, hm, hb, rfl⟩)⟩
      simp only [vMemI, vMem, fnCells] at h1 ⊢
      by_cases q : c.tmod 8 = 0
      · simp -implicitDefEqProofs [v9B4, h1, q, hneg]
      · have q2 : x.op = 29 := hor.resolve_left q
        rw [q2] at h1 ⊢
        simp -implicitDefEqProofs [v9B4, h1, q, hneg]
  by_cases q : c.tmod 8 = 0
  · exact fin (.inl q)
  · by_cases q2 : x.op = 29
    · exact fin (.inr q2)
    · refine ⟨.normal, _, ?_, .inr (.inr ⟨rfl, q2, rfl⟩)⟩
      simp only [vMemI, vMem, fnCells]
      simp -implicitDefEqProofs [v9B4, q, q2]

/-- Behind the switch: a place of which it is told how deep it is. -/
theorem run_SW (cv tv : IV) (f : Fn) {T : List Int} {np pc i : Nat} {x : Ins} {d c : Int} (hf : FnOk np f) (hx : f.code.xs[pc]? = some x) (hg : Good f T pc x d) (h0 : 0 ≤ d ∧ d ≤ 256) (h29 : x.op ≠ 29) :
    ∃ e s', den code9 (extInsert 766) (.seq v9SW v9E) ⟨0, vEnv cv tv pc d i ++ [(13, .optr 1 0), (14, .imm (.val (.int .u8 c))), (93, avb false)], vMemI f x⟩ = some (e, s') ∧
      ((e = .ret ∧ ∃ mem, s' = ⟨0, [(6, avb true)], mem⟩) ∨ ((e = .normal ∨ e = .exit 1) ∧ ∃ (pc' : Nat) (d' : Int), T[pc']? = some d' ∧ 0 ≤ d' ∧ s' = ⟨0, vEnv cv tv pc' d' i, vMemI f x⟩)) := by
  have hnum := (hf.num pc x hx).1
  have hop := numOk_op hnum
  have htm := numOk_tm hnum
  have ha := fnOk_a hf hx
  have hpre := pre_bd hg.pre
  have hnx := hg.next
  have hpf := hg.pre
  have hlt := (List.getElem?_eq_some_iff.1 hx).1
  have hbig : pc ≤ 1000000 := by have := hf.few; omega
  obtain ⟨op, a⟩ := x
  simp only at hop htm ha h29
  have e3 : ((pc : Int) + 1) = ((pc + 1 : Nat) : Int) := by omega
  have hk : op = 1 ∨ op = 2 ∨ op = 3 ∨ op = 4 ∨ op = 5 ∨ op = 6 ∨ op = 7 ∨ op = 8 ∨ op = 9 ∨ op = 10 ∨ op = 11 ∨ op = 12 ∨ op = 13 ∨ op = 14 ∨ op = 15 ∨ op = 16 ∨ op = 17 ∨ op = 18 ∨ op = 19 ∨ op = 20 ∨ op = 21 ∨ op = 22 ∨ op = 23 ∨ op = 24 ∨ op = 25 ∨ op = 26 ∨ op = 27 ∨ op = 28 ∨ op = 30 := by omega
  have nx : ∀ (d2 : Int), nexts ⟨op, a⟩ pc = [pc + 1] → dOf d ⟨op, a⟩ + (qOf op).2.2.1 = d2 → ∀ r, r = some (XExit.normal, (⟨0, vEnv cv tv ((pc : Int) + 1) d2 i, vMemI f ⟨op, a⟩⟩ : St)) →
      ∃ e s', r = some (e, s') ∧ ((e = .ret ∧ ∃ mem, s' = ⟨0, [(6, avb true)], mem⟩) ∨ ((e = .normal ∨ e = .exit 1) ∧ ∃ (pc' : Nat) (d' : Int), T[pc']? = some d' ∧ 0 ≤ d' ∧ s' = ⟨0, vEnv cv tv pc' d' i, vMemI f ⟨op, a⟩⟩)) := by
    intro d2 h1 h2 r hr
    subst hr
    have h3 := hnx (pc + 1) (by rw [h1]; simp)
    simp only [h2] at h3 hpre
    exact ⟨_, _, rfl, .inr ⟨.inl rfl, pc + 1, d2, h3, hpre.2.1, by rw [← e3]⟩⟩
  have go : ∀ (d2 : Int), 0 ≤ a → a.toNat ∈ nexts ⟨op, a⟩ pc → dOf d ⟨op, a⟩ + (qOf op).2.2.1 = d2 → ∀ r, r = some (XExit.exit 1, (⟨0, vEnv cv tv a d2 i, vMemI f ⟨op, a⟩⟩ : St)) →
      ∃ e s', r = some (e, s') ∧ ((e = .ret ∧ ∃ mem, s' = ⟨0, [(6, avb true)], mem⟩) ∨ ((e = .normal ∨ e = .exit 1) ∧ ∃ (pc' : Nat) (d' : Int), T[pc']? = some d' ∧ 0 ≤ d' ∧ s' = ⟨0, vEnv cv tv pc' d' i, vMemI f ⟨op, a⟩⟩)) := by
    intro d2 h0 h1 h2 r hr
    subst hr
    have h3 := hnx a.toNat h1
    simp only [h2] at h3 hpre
    exact ⟨_, _, rfl, .inr ⟨.inr rfl, a.toNat, d2, h3, hpre.2.1, by rw [Int.toNat_of_nonneg h0]⟩⟩
  rcases hk with rfl | rfl | rfl | rfl | rfl | rfl | rfl | rfl | rfl | rfl | rfl | rfl | rfl | rfl | rfl | rfl | rfl | rfl | rfl | rfl | rfl | rfl | rfl | rfl | rfl | rfl | rfl | rfl | rfl
  · exact nx _ (by simp [nexts]) (by simp [dOf, qOf, opRow, rowTab]; try omega) _ (sw1 cv tv f pc i a d c hbig h0)
  · exact nx _ (by simp [nexts]) (by simp [dOf, qOf, opRow, rowTab]; try omega) _ (sw2 cv tv f pc i a d c hbig h0)
  · exact nx _ (by simp [nexts]) (by simp [dOf, qOf, opRow, rowTab]; try omega) _ (sw3 cv tv f pc i a d c hbig h0)
  · exact nx _ (by simp [nexts]) (by simp [dOf, qOf, opRow, rowTab]; try omega) _ (sw4 cv tv f pc i a d c hbig h0)
  · exact nx _ (by simp [nexts]) (by simp [dOf, qOf, opRow, rowTab]; try omega) _ (sw5 cv tv f pc i a d c hbig h0)
  · exact nx _ (by simp [nexts]) (by simp [dOf, qOf, opRow, rowTab]; try omega) _ (sw6 cv tv f pc i a d c hbig h0)
  · exact nx _ (by simp [nexts]) (by simp [dOf, qOf, opRow, rowTab]; try omega) _ (sw7 cv tv f pc i a d c hbig h0)
  · exact nx _ (by simp [nexts]) (by simp [dOf, qOf, opRow, rowTab]; try omega) _ (sw8 cv tv f pc i a d c hbig h0)
  · exact nx _ (by simp [nexts]) (by simp [dOf, qOf, opRow, rowTab]; try omega) _ (sw9 cv tv f pc i a d c hbig h0)
  · exact nx _ (by simp [nexts]) (by simp [dOf, qOf, opRow, rowTab]; try omega) _ (sw10 cv tv f pc i a d c hbig h0)
  · exact nx _ (by simp [nexts]) (by simp [dOf, qOf, opRow, rowTab]; try omega) _ (sw11 cv tv f pc i a d c hbig h0)
  · exact nx _ (by simp [nexts]) (by simp [dOf, qOf, opRow, rowTab]; try omega) _ (sw12 cv tv f pc i a d c hbig h0)
  · exact nx _ (by simp [nexts]) (by simp [dOf, qOf, opRow, rowTab]; try omega) _ (sw13 cv tv f pc i a d c hbig h0)
  · exact nx _ (by simp [nexts]) (by simp [dOf, qOf, opRow, rowTab]; try omega) _ (sw14 cv tv f pc i a d c hbig h0)
  · exact nx _ (by simp [nexts]) (by simp [dOf, qOf, opRow, rowTab]; try omega) _ (sw15 cv tv f pc i a d c hbig h0)
  · exact nx _ (by simp [nexts]) (by simp [dOf, qOf, opRow, rowTab]; try omega) _ (sw16 cv tv f pc i a d c hbig h0)
  · exact nx _ (by simp [nexts]) (by simp [dOf, qOf, opRow, rowTab]; try omega) _ (sw17 cv tv f pc i a d c hbig h0)
  · exact nx _ (by simp [nexts]) (by simp [dOf, qOf, opRow, rowTab]; try omega) _ (sw18 cv tv f pc i a d c hbig h0)
  · exact go d (ha (by omega)).1 (by simp [nexts]) (by simp [dOf, qOf, opRow, rowTab]; try omega) _ (sw19 cv tv f pc i a d c)
  · by_cases hc2 : c.tmod 2 = 1
    · exact go (d - 1) (ha (by omega)).1 (by simp [nexts]) (by simp [dOf, qOf, opRow, rowTab]; try omega) _ ((sw20 cv tv f pc i a d c hbig h0).trans (if_pos hc2))
    · have h3 := hnx (pc + 1) (by simp [nexts])
      have h2 : dOf d ⟨20, a⟩ + (qOf 20).2.2.1 = d - 1 := by simp [dOf, qOf, opRow, rowTab]; try omega
      simp only [h2] at h3 hpre
      exact ⟨_, _, (sw20 cv tv f pc i a d c hbig h0).trans (if_neg hc2), .inr ⟨.inl rfl, pc + 1, d - 1, h3, hpre.2.1, by rw [← e3]⟩⟩
  · have hz : d = 0 := by have := hpf; simp [preFault] at this; omega
    exact go d (ha (by omega)).1 (by simp [nexts]) (by simp [dOf, qOf, opRow, rowTab]; try omega) _ ((sw21 cv tv f pc i a d c).trans (if_pos hz))
  · exact nx _ (by simp [nexts]) (by simp [dOf, qOf, opRow, rowTab]; try omega) _ (sw22 cv tv f pc i a d c hbig h0 (htm.resolve_left (by decide)))
  · exact nx _ (by simp [nexts]) (by simp [dOf, qOf, opRow, rowTab]; try omega) _ (sw23 cv tv f pc i a d c hbig h0 (htm.resolve_left (by decide)))
  · exact nx _ (by simp [nexts]) (by simp [dOf, qOf, opRow, rowTab]; try omega) _ (sw24 cv tv f pc i a d c hbig h0)
  · exact nx _ (by simp [nexts]) (by simp [dOf, qOf, opRow, rowTab]; try omega) _ (sw25 cv tv f pc i a d c hbig h0)
  · exact nx _ (by simp [nexts]) (by simp [dOf, qOf, opRow, rowTab]; try omega) _ (sw26 cv tv f pc i a d c hbig h0)
  · exact nx _ (by simp [nexts]) (by simp [dOf, qOf, opRow, rowTab]; try omega) _ (sw27 cv tv f pc i a d c hbig h0 (htm.resolve_left (by decide)))
  · have h1 : 1 ≤ d := by have := hpre.1; simp [dOf, qOf, opRow, rowTab] at this; omega
    exact ⟨_, _, sw28 cv tv f pc i a d c h1, .inl ⟨rfl, _, rfl⟩⟩
  · exact nx _ (by simp [nexts]) (by simp [dOf, qOf, opRow, rowTab]; try omega) _ (sw30 cv tv f pc i a d c hbig h0)


end Go.EX
