import Derived.Test.YtbomedbbgfcncaaDoorS4a
set_option linter.unusedVariables false
set_option linter.unusedSimpArgs false
namespace Go.EX
section
variable {code : Nat → Option XFun} {ext : Calls'}
def sumL : List Obj → Int
  | [] => 0
  | o :: r => o.l.xs.length + sumL r
theorem sumL_snoc : ∀ (l : List Obj) (o : Obj), sumL (l ++ [o]) = sumL l + o.l.xs.length
  | [], o => by simp [sumL]
  | x :: l, o => by rw [List.cons_append, sumL, sumL, sumL_snoc l o]; omega
theorem sizeGo_bd : ∀ (l : List Obj) (m : Int), (∀ o ∈ l, tObj.wf o) → 0 ≤ m → m ≤ 1000000000000000 → m ≤ sizeGo m l ∧ sizeGo m l ≤ 1000000000000000
  | [], m, _, h0, h1 => ⟨Int.le_refl _, h1⟩
  | o :: r, m, hw, h0, h1 => by
    have hb := objSize_bd o (hw o (List.mem_cons_self ..))
    rw [sizeGo]
    split
    · have := sizeGo_bd r (m + objSize o) (fun x hx => hw x (List.mem_cons_of_mem _ hx)) (by omega) (by omega)
      omega
    · omega
def greatOf (S : List Obj) : Bool := if ∃ o ∈ S, (5000 : Int) < o.l.xs.length then true else decide (20000 < IntKind.wrap .i64 (sumL S)) || decide (1048576 < sizeGo S.length S)
theorem great_spec (h0 : code 303 = some x303) (h : code 380 = some x380) (h' : code 338 = some x338) (h2 : code 339 = some x339) (h3 : code 361 = some x361) (h4 : code 445 = some x445) {iv : IV} {S : List Obj} (hr : Reads tObj iv S) :
    callW code ext 445 [.imm iv] [] = some (avb (greatOf S), []) := by
  have hlen := reads_len hr
  have hb := hr.2.1
  have loop : ∃ e s', den code ext (.loop [0, 3, 4] x445L1) ⟨0, [(0, .imm iv), (3, int64 0), (4, int64 0)], []⟩ = some (e, s') ∧ e ≠ .normal ∧
      ((e = .exit 0 ∧ (¬ ∃ o ∈ S, (5000 : Int) < o.l.xs.length) ∧ s' = ⟨0, [(0, .imm iv), (3, int64 (IntKind.wrap .i64 (sumL S))), (4, int64 S.length), (8, avb false)], []⟩) ∨ (e = .ret ∧ (∃ o ∈ S, (5000 : Int) < o.l.xs.length) ∧ s' = ⟨0, [(2, avb true)], []⟩)) := by
    refine loop_rule (fun n s => ∃ (i : Nat), i + n = S.length ∧ (∀ o ∈ S.take i, ¬ (5000 : Int) < o.l.xs.length) ∧ s = ⟨0, [(0, .imm iv), (3, int64 (IntKind.wrap .i64 (sumL (S.take i)))), (4, int64 (i : Nat))], []⟩) _ ?_ S.length _ ⟨0, by simp, by simp, by simp [sumL]; rfl⟩
    rintro n _ ⟨i, hi, hall, rfl⟩
    by_cases hlt : i < S.length
    · obtain ⟨row, off, cap, rfl, hc, hcut, hget⟩ := reads_pos hr (List.getElem?_eq_getElem hlt)
      have e1 : IntKind.wrap .i64 ((i : Int) + 1) = (i : Int) + 1 := wrapI64 (by omega) (by omega)
      have htk : S.take (i + 1) = S.take i ++ [S[i]] := by rw [List.take_add_one, List.getElem?_eq_getElem hlt]; rfl
      have hw := hr.1 _ (List.getElem_mem hlt)
      have hmem := List.getElem_mem hlt
      generalize S[i] = o at hget hw htk hmem
      simp only [tObj] at hget
      have g2 : row[off + i * 5 + 2]? = some o.l.iv := cut_get hget 2 (by omega)
      have hll := reads_len o.l.ok
      by_cases hc2 : (5000 : Int) < o.l.xs.length
      · refine ⟨.ret, ⟨0, [(2, avb true)], []⟩, ?_, .inr ⟨by simp, .inr ⟨rfl, ⟨o, hmem, hc2⟩, rfl⟩⟩⟩
        simp -implicitDefEqProofs [x445L1, hlt, g2, hll, hc2]
      · refine ⟨.normal, ⟨0, [(0, .imm (.slice row off S.length cap)), (3, int64 (IntKind.wrap .i64 (sumL (S.take (i + 1))))), (4, int64 ((i : Int) + 1))], []⟩, ?_, .inl ⟨rfl, n - 1, by omega, i + 1, by omega, fun q hq => ?_, rfl⟩⟩
        · have e2 := wrap_add (sumL (S.take i)) o.l.xs.length
          rw [htk, sumL_snoc]
          simp -implicitDefEqProofs [x445L1, hlt, g2, hll, hc2, e1, e2]
        · rw [htk, List.mem_append, List.mem_singleton] at hq
          rcases hq with hq | rfl
          · exact hall q hq
          · exact hc2
    · have : i = S.length := by omega
      subst this
      rw [List.take_length] at hall ⊢
      refine ⟨.exit 0, ⟨0, [(0, .imm iv), (3, int64 (IntKind.wrap .i64 (sumL S))), (4, int64 S.length), (8, avb false)], []⟩, ?_, .inr ⟨by simp, .inl ⟨rfl, fun ⟨o, ho, h⟩ => hall o ho h, rfl⟩⟩⟩
      simp -implicitDefEqProofs [x445L1, hlen]
  have hsb := sizeGo_bd S S.length hr.1 (by omega) (by omega)
  have hst := storeSize_spec (ext := ext) h h' h2 h3 hr
  have hby := beyond_one (ext := ext) h0 (sizeGo S.length S) (by omega) (by omega)
  obtain ⟨e, s', h1, _, ⟨rfl, hn, rfl⟩ | ⟨rfl, hn, rfl⟩⟩ := loop
  · rw [callW_fun code ext h4]
    unfold greatOf
    rw [if_neg hn]
    by_cases hc : 20000 < IntKind.wrap .i64 (sumL S)
    · simp -implicitDefEqProofs [x445, h1, hc]
    · simp -implicitDefEqProofs [x445, h1, hc, hst, hby]
  · rw [callW_fun code ext h4]
    unfold greatOf
    rw [if_pos hn]
    simp -implicitDefEqProofs [x445, h1]
theorem great_false {S : List Obj} (hw : ∀ o ∈ S, tObj.wf o) (hlb : S.length ≤ 140737488355328) (h : greatOf S = false) : (∀ o ∈ S, o.l.xs.length ≤ 5000) ∧ S.length ≤ 1048576 ∧ sumL S ≤ 20000 := by
  unfold greatOf at h
  split at h
  · cases h
  rename_i hn
  simp only [Bool.or_eq_false_iff, decide_eq_false_iff_not] at h
  have hsb := sizeGo_bd S S.length hw (by omega) (by omega)
  have h1 : ∀ o ∈ S, o.l.xs.length ≤ 5000 := fun o ho => by
    rcases Nat.lt_or_ge 5000 o.l.xs.length with h | h
    · exact absurd ⟨o, ho, by omega⟩ hn
    · exact h
  have h2 : ∀ (l : List Obj), (∀ o ∈ l, o.l.xs.length ≤ 5000) → 0 ≤ sumL l ∧ sumL l ≤ 5000 * l.length := by
    intro l
    induction l with
    | nil => intro _; simp [sumL]
    | cons o l ih =>
      intro hl
      have := ih fun x hx => hl x (List.mem_cons_of_mem _ hx)
      have := hl o (List.mem_cons_self ..)
      rw [sumL, List.length_cons]
      omega
  have h3 := h2 S h1
  refine ⟨h1, by omega, ?_⟩
  have : IntKind.wrap .i64 (sumL S) = sumL S := wrapI64 (by omega) (by omega)
  omega
def spVal : Val := ⟨0, 7777⟩
theorem twinVals_spec (h : code 379 = some x379) {iv : IV} {xs : List Val} (hr : Reads tVal iv xs) (hb : xs.length ≤ 1000000000) :
    callW code ext 379 [.imm iv] [] = some (.osl 0 0 2 xs.length (some (xs.length + 1)), [.flat (tVal.row (xs ++ [spVal])) false]) :=
  twin_spec tVal zVal spVal 16 [.int .u8 0, .int .i64 0] (by decide) rfl (by simp [Value.oneCell']) 1 (.int .i64 7777) (by decide) rfl (h.trans rfl) hr (by omega) (by omega)
end
end Go.EX

