/-
  EX: law 04: the reference's words, counted.
-/
import Derived.Test.YtbomedbbgfcncaaS4e
set_option linter.unusedVariables false
set_option linter.unusedSimpArgs false
namespace Go.EX

section
variable {code : Nat → Option XFun} {ext : Calls'}

theorem tdiv8 (n : Nat) : ((n : Int) + 7).tdiv 8 = (((n + 7) / 8 : Nat) : Int) := by
  have := Int.ofNat_tdiv (n + 7) 8
  simpa using this.symm

theorem refWords_step (sv fv : IV) (S : List Obj) (F : List Bool) (hr : Reads tObj sv S) (hf : Reads tBool fv F) (hFl : F.length = S.length) (hk : ∀ (k : Nat) (o : Obj), F[k]? = some true → S[k]? = some o → 3 ≤ o.k ∧ o.k ≤ 7)
    (hS : S.length ≤ 1048576) (hroom : ∀ o ∈ S, o.room ≤ 1099511627776) (hs : ∀ o ∈ S, o.s.size ≤ 1048576) (hL : ∀ o ∈ S, o.l.xs.length ≤ 5000) (i : Nat) (hi : i < S.length) (m : Nat) (hm : m ≤ i * 3000000000000) :
    (m + (if F[i]? = some true then wordsAt S i else 0) ≤ (i + 1) * 3000000000000) ∧
    ∃ s', den code ext x505L1 ⟨0, [(0, .imm sv), (5, .imm fv), (6, int64 m), (7, int64 (i : Nat))], []⟩ = some (.normal, s') ∧
      s'.tidy [0, 5, 6, 7] = ⟨0, [(0, .imm sv), (5, .imm fv), (6, int64 ((m + (if F[i]? = some true then wordsAt S i else 0) : Nat) : Int)), (7, int64 ((i + 1 : Nat) : Int))], []⟩ := by
  obtain ⟨row, off, cap, rfl, hc, hcut, hget⟩ := reads_pos hr (List.getElem?_eq_getElem hi)
  have hif : i < F.length := by omega
  obtain ⟨row', off', cap', rfl, hc', hcut', hget'⟩ := reads_pos hf (List.getElem?_eq_getElem hif)
  have hq := cut_one (by simpa [tBool] using hget')
  have e1 : IntKind.wrap .i64 ((i : Int) + 1) = (i : Int) + 1 := wrapI64 (by omega) (by omega)
  have hFi := List.getElem?_eq_getElem hif
  have hwa : wordsAt S i = wordsOf S[i] := by simp [wordsAt, hi]
  have hmem := List.getElem_mem hi
  have hroom := hroom _ hmem
  have hs := hs _ hmem
  have hL := hL _ hmem
  have hk := hk i S[i]
  have hSi := List.getElem?_eq_getElem hi
  rw [hwa]
  have hwf := hr.1 _ hmem
  generalize S[i] = o at *
  simp only [tObj] at hget
  cases hb : F[i] with
  | false =>
    rw [hb] at hFi hq
    have hno : ¬ F[i]? = some true := by rw [hFi]; simp
    rw [if_neg hno]
    refine ⟨by rw [Nat.add_zero, Nat.add_mul]; exact Nat.le_trans hm (Nat.le_add_right _ _), ⟨0, [(0, .imm (.slice row off S.length cap)), (5, .imm (.slice row' off' F.length cap')), (6, int64 m), (7, int64 ((i : Int) + 1))], []⟩, ?_, by simp -implicitDefEqProofs⟩
    simp -implicitDefEqProofs [x505L1, hif, hq, e1]
  | true =>
    rw [hb] at hFi hq
    rw [if_pos hFi]
    obtain ⟨k3, k7⟩ := hk hFi hSi
    have hw3 : wordsOf o ≤ 3000000000000 := by unfold wordsOf; split; omega; split; split <;> omega; split <;> omega
    have hgoal : m + wordsOf o ≤ (i + 1) * 3000000000000 := by rw [Nat.add_mul]; exact Nat.add_le_add hm (by rw [Nat.one_mul]; exact hw3)
    refine ⟨hgoal, ?_⟩
    by_cases c3 : o.k = 3
    · have hw : wordsOf o = 2 + (o.s.size + 7) / 8 := by simp [wordsOf, c3]
      have w1 : IntKind.wrap .i64 ((m : Int) + 2) = (m : Int) + 2 := wrapI64 (by omega) (by omega)
      have w2 : IntKind.wrap .i64 ((o.s.size : Int) + 7) = (o.s.size : Int) + 7 := wrapI64 (by omega) (by omega)
      have w3 : IntKind.wrap .i64 ((((o.s.size + 7) / 8 : Nat) : Int)) = (((o.s.size + 7) / 8 : Nat) : Int) := wrapI64 (by omega) (by omega)
      have w4 : IntKind.wrap .i64 ((m : Int) + 2 + (((o.s.size + 7) / 8 : Nat) : Int)) = (m : Int) + 2 + (((o.s.size + 7) / 8 : Nat) : Int) := wrapI64 (by omega) (by omega)
      have hd := tdiv8 o.s.size
      generalize hqq : (o.s.size + 7) / 8 = q at *
      rw [hw]
      refine ⟨⟨0, [(0, .imm (.slice row off S.length cap)), (5, .imm (.slice row' off' F.length cap')), (6, int64 ((m : Int) + 2 + q)), (7, int64 ((i : Int) + 1))], [.rich [.imm (.val (.int .u8 o.k)), .imm (.val (.string o.s)), .imm o.l.iv, int64 o.room, int64 o.fn]]⟩, ?_, ?_⟩
      · simp -implicitDefEqProofs [x505L1, hif, hq, e1, hi, hget, c3, w1, w2, w3, w4, hd]
      · have : (m : Int) + 2 + (q : Int) = (m : Int) + (2 + (q : Int)) := by omega
        simp -implicitDefEqProofs [this]
    by_cases c45 : o.k = 4 ∨ o.k = 5
    · by_cases c0 : 0 < o.room
      · have hw : wordsOf o = 4 + 2 * o.room.toNat := by simp [wordsOf, c3, c45, c0]
        obtain ⟨r, hr⟩ : ∃ r : Nat, o.room = r := ⟨o.room.toNat, by omega⟩
        have hr2 : o.room.toNat = r := by omega
        have w1 : IntKind.wrap .i64 ((m : Int) + 3) = (m : Int) + 3 := wrapI64 (by omega) (by omega)
        have w2 : IntKind.wrap .i64 ((m : Int) + 3 + 1) = (m : Int) + 3 + 1 := wrapI64 (by omega) (by omega)
        have w3 : IntKind.wrap .i64 (2 * (r : Int)) = 2 * r := wrapI64 (by omega) (by omega)
        have w4 : IntKind.wrap .i64 ((m : Int) + 3 + 1 + 2 * r) = (m : Int) + 3 + 1 + 2 * r := wrapI64 (by omega) (by omega)
        have hr0 : 0 < r := by omega
        rw [hw, hr2]
        refine ⟨⟨0, [(0, .imm (.slice row off S.length cap)), (5, .imm (.slice row' off' F.length cap')), (6, int64 ((m : Int) + 3 + 1 + 2 * r)), (7, int64 ((i : Int) + 1))], [.rich [.imm (.val (.int .u8 o.k)), .imm (.val (.string o.s)), .imm o.l.iv, int64 o.room, int64 o.fn]]⟩, ?_, ?_⟩
        · rcases c45 with c4 | c5
          · simp -implicitDefEqProofs [x505L1, hif, hq, e1, hi, hget, c4, w1, w2, w3, w4, hr, hr0]
          · simp -implicitDefEqProofs [x505L1, hif, hq, e1, hi, hget, c5, w1, w2, w3, w4, hr, hr0]
        · have : (m : Int) + 3 + 1 + 2 * (r : Int) = (m : Int) + (4 + 2 * (r : Int)) := by omega
          simp -implicitDefEqProofs [this]
      · have hw : wordsOf o = 3 := by simp [wordsOf, c3, c45, c0]
        have w1 : IntKind.wrap .i64 ((m : Int) + 3) = (m : Int) + 3 := wrapI64 (by omega) (by omega)
        rw [hw]
        refine ⟨⟨0, [(0, .imm (.slice row off S.length cap)), (5, .imm (.slice row' off' F.length cap')), (6, int64 ((m : Int) + 3)), (7, int64 ((i : Int) + 1))], [.rich [.imm (.val (.int .u8 o.k)), .imm (.val (.string o.s)), .imm o.l.iv, int64 o.room, int64 o.fn]]⟩, ?_, ?_⟩
        · rcases c45 with c4 | c5
          · simp -implicitDefEqProofs [x505L1, hif, hq, e1, hi, hget, c4, w1, c0]
          · simp -implicitDefEqProofs [x505L1, hif, hq, e1, hi, hget, c5, w1, c0]
        · simp -implicitDefEqProofs
    · have c4 : ¬ o.k = 4 := fun e => c45 (.inl e)
      have c5 : ¬ o.k = 5 := fun e => c45 (.inr e)
      by_cases c6 : o.k = 6
      · have hw : wordsOf o = 2 + 2 * o.l.xs.length := by simp [wordsOf, c6]
        have hll := reads_len o.l.ok
        have w1 : IntKind.wrap .i64 ((m : Int) + 2) = (m : Int) + 2 := wrapI64 (by omega) (by omega)
        have w2 : IntKind.wrap .i64 (2 * (o.l.xs.length : Int)) = 2 * (o.l.xs.length : Int) := wrapI64 (by omega) (by omega)
        have w3 : IntKind.wrap .i64 ((m : Int) + 2 + 2 * (o.l.xs.length : Int)) = (m : Int) + 2 + 2 * (o.l.xs.length : Int) := wrapI64 (by omega) (by omega)
        rw [hw]
        refine ⟨⟨0, [(0, .imm (.slice row off S.length cap)), (5, .imm (.slice row' off' F.length cap')), (6, int64 ((m : Int) + 2 + 2 * o.l.xs.length)), (7, int64 ((i : Int) + 1))], [.rich [.imm (.val (.int .u8 o.k)), .imm (.val (.string o.s)), .imm o.l.iv, int64 o.room, int64 o.fn]]⟩, ?_, ?_⟩
        · simp -implicitDefEqProofs [x505L1, hif, hq, e1, hi, hget, c6, w1, w2, w3, hll]
        · have : (m : Int) + 2 + 2 * (o.l.xs.length : Int) = (m : Int) + (2 + 2 * (o.l.xs.length : Int)) := by omega
          simp -implicitDefEqProofs [this]
      · have c7 : o.k = 7 := by omega
        have hw : wordsOf o = 3 := by simp [wordsOf, c7]
        have w1 : IntKind.wrap .i64 ((m : Int) + 3) = (m : Int) + 3 := wrapI64 (by omega) (by omega)
        rw [hw]
        refine ⟨⟨0, [(0, .imm (.slice row off S.length cap)), (5, .imm (.slice row' off' F.length cap')), (6, int64 ((m : Int) + 3)), (7, int64 ((i : Int) + 1))], [.rich [.imm (.val (.int .u8 o.k)), .imm (.val (.string o.s)), .imm o.l.iv, int64 o.room, int64 o.fn]]⟩, ?_, ?_⟩
        · simp -implicitDefEqProofs [x505L1, hif, hq, e1, hi, hget, c7, w1]
        · simp -implicitDefEqProofs

theorem refWords_spec (h : code 502 = some x502) (h' : code 509 = some x509) (h2 : code 505 = some x505) {sv rv : IV} {S : List Obj} {roots : List Val} (hr : Reads tObj sv S) (hq : Reads tVal rv roots) (hM : roots.length + unm (List.replicate S.length false) S ≤ 100000000)
    (hS : S.length ≤ 1048576) (hroom : ∀ o ∈ S, o.room ≤ 1099511627776) (hs : ∀ o ∈ S, o.s.size ≤ 1048576) (hL : ∀ o ∈ S, o.l.xs.length ≤ 5000) :
    ∃ F, Marks S roots F [] ∧ callW code ext 505 [.imm sv, .imm rv] [] = some (int64 (markedWords S F : Nat), []) ∧ markedWords S F ≤ S.length * 3000000000000 := by
  obtain ⟨F, hI, hre⟩ := reached_spec (ext := ext) h h' hr hq hM hS
  have hFl := hI.len
  have hf : Reads tBool (.slice (tBool.row F) 0 S.length (some S.length)) F := by
    have := reads_row tBool F (cap := some S.length) (fun _ _ => trivial) (by omega) (fun c hc => by cases hc; omega)
    rwa [hFl] at this
  generalize hfv : IV.slice (tBool.row F) 0 S.length (some S.length) = fv at hf
  have hkk : ∀ (k : Nat) (o : Obj), F[k]? = some true → S[k]? = some o → 3 ≤ o.k ∧ o.k ≤ 7 := by
    intro k o hk ho
    have key : ∀ v, leadsOf S v = some k → 3 ≤ o.k ∧ o.k ≤ 7 := by
      intro v hv
      obtain ⟨_, _, h3, h7, p, hp, hpk⟩ := leadsOf_some hv
      rw [ho] at hp; cases hp
      omega
    cases (hI.done k).1 hk with
    | root _ hl => exact key _ hl
    | step _ _ _ hl => exact key _ hl
  have hlenF := reads_len hf
  have loop : ∃ e s', den code ext (.loop [0, 5, 6, 7] x505L1) ⟨0, [(0, .imm sv), (5, .imm fv), (6, int64 0), (7, int64 0)], []⟩ = some (e, s') ∧ e ≠ .normal ∧
      (e = .exit 0 ∧ wordsTo S F S.length ≤ S.length * 3000000000000 ∧ s' = ⟨0, [(0, .imm sv), (5, .imm fv), (6, int64 (wordsTo S F S.length : Nat)), (7, int64 S.length), (15, avb false)], []⟩) := by
    refine loop_rule (fun n s => ∃ (i : Nat), i + n = S.length ∧ wordsTo S F i ≤ i * 3000000000000 ∧ s.tidy [0, 5, 6, 7] = ⟨0, [(0, .imm sv), (5, .imm fv), (6, int64 (wordsTo S F i : Nat)), (7, int64 (i : Nat))], []⟩) _ ?_ S.length _ ⟨0, by simp, by simp [wordsTo], by simp [wordsTo]⟩
    rintro n s ⟨i, hi, hm, hst⟩
    rw [hst]
    by_cases hlt : i < S.length
    · obtain ⟨hb, s', h1, h2⟩ := refWords_step (code := code) (ext := ext) sv fv S F hr hf hFl hkk hS hroom hs hL i hlt _ hm
      refine ⟨.normal, s', h1, .inl ⟨rfl, n - 1, by omega, i + 1, by omega, ?_, ?_⟩⟩
      · rw [wordsTo_succ]; exact hb
      · rw [h2, wordsTo_succ]
    · have : i = S.length := by omega
      subst this
      refine ⟨.exit 0, _, ?_, .inr ⟨by simp, rfl, hm, rfl⟩⟩
      simp -implicitDefEqProofs [x505L1, hlenF, hFl]
  obtain ⟨e, s', h3, _, rfl, h4, rfl⟩ := loop
  refine ⟨F, hI, ?_, h4⟩
  rw [callW_fun code ext h2]
  simp -implicitDefEqProofs [x505, hre, hfv, h3]
  rfl

end
end Go.EX
