/-
  EX: law 04: may a value be?
-/
import Derived.Test.YtbomedbbgfcncaaS4k
set_option linter.unusedVariables false
set_option linter.unusedSimpArgs false
namespace Go.EX

def valOf (S : List Obj) (v : Val) : Bool := if v.k = 0 then decide (v.n = 0) else if v.k = 1 then decide (v.n = 0 ∨ v.n = 1) else if v.k = 2 then true else (leadsOf S v).isSome

section
variable {code : Nat → Option XFun} {ext : Calls'}

theorem val_spec (h : code 651 = some x651) (h' : code 656 = some x656) (T : List Obj) (hb : T.length ≤ 1048576) (v : Val) (hv : (tInt .i64).wf v.n) :
    callW code ext 656 [.osl 0 0 5 T.length (some (T.length + 1)), .agg [.imm (.val (.int .u8 v.k)), int64 v.n]] [.flat (storeRow T) false] = some (avb (valOf T v), [.flat (storeRow T) false]) := by
  rw [callW_fun code ext h']
  have hl := leadsP_spec (ext := ext) h T hb v hv
  by_cases k0 : v.k = 0
  · simp -implicitDefEqProofs [x656, valOf, k0]
  by_cases k1 : v.k = 1
  · by_cases n0 : v.n = 0
    · simp -implicitDefEqProofs [x656, valOf, k1, n0]
    · simp -implicitDefEqProofs [x656, valOf, k1, n0]
  by_cases k2 : v.k = 2
  · simp -implicitDefEqProofs [x656, valOf, k2]
  cases hq : leadsOf T v with
  | none =>
    rw [hq, leadAV] at hl
    simp -implicitDefEqProofs [x656, valOf, k0, k1, k2, hq, hl]
  | some q =>
    rw [hq, leadAV] at hl
    simp -implicitDefEqProofs [x656, valOf, k0, k1, k2, hq, hl]

theorem refVal_spec (h : code 502 = some x502) (h' : code 510 = some x510) {sv : IV} {S : List Obj} (hr : Reads tObj sv S) (v : Val) : callW code ext 510 [.imm sv, .agg [.imm (.val (.int .u8 v.k)), int64 v.n]] [] = some (avb (valOf S v), []) := by
  rw [callW_fun code ext h']
  have hl := leads_spec (ext := ext) h hr v
  by_cases k0 : v.k = 0
  · simp -implicitDefEqProofs [x510, valOf, k0]
  by_cases k1 : v.k = 1
  · by_cases n0 : v.n = 0
    · simp -implicitDefEqProofs [x510, valOf, k1, n0]
    · simp -implicitDefEqProofs [x510, valOf, k1, n0]
  by_cases k2 : v.k = 2
  · simp -implicitDefEqProofs [x510, valOf, k2]
  unfold leadInt at hl
  cases hq : leadsOf S v with
  | none =>
    rw [hq] at hl
    simp -implicitDefEqProofs [x510, valOf, k0, k1, k2, hq, hl]
  | some q =>
    rw [hq] at hl
    have : (0 : Int) ≤ q := by omega
    simp -implicitDefEqProofs [x510, valOf, k0, k1, k2, hq, hl, this]

/-! ### the reference: values held -/

def heldOf (S : List Obj) (l : List Val) (c : Bool) : Bool := l.all fun v => valOf S v && (decide (v.k = 7) == c)

theorem refHeld_spec (h : code 502 = some x502) (h' : code 510 = some x510) (h2 : code 506 = some x506) {sv lv : IV} {S : List Obj} {l : List Val} (hr : Reads tObj sv S) (hl : Reads tVal lv l) (c : Bool) :
    callW code ext 506 [.imm sv, .imm lv, avb c] [] = some (avb (heldOf S l c), []) := by
  have hlen := reads_len hl
  have hb := hl.2.1
  have loop : ∃ e s', den code ext (.loop [0, 1, 2, 7] x506L1) ⟨0, [(0, .imm sv), (1, .imm lv), (2, avb c), (7, int64 0)], []⟩ = some (e, s') ∧ e ≠ .normal ∧
      ((e = .exit 0 ∧ heldOf S l c = true ∧ s' = ⟨0, [(0, .imm sv), (1, .imm lv), (2, avb c), (7, int64 l.length), (11, avb false)], []⟩) ∨ (e = .ret ∧ heldOf S l c = false ∧ s' = ⟨0, [(6, avb false)], []⟩)) := by
    refine loop_rule (fun n s => ∃ (i : Nat), i + n = l.length ∧ heldOf S (l.take i) c = true ∧ s = ⟨0, [(0, .imm sv), (1, .imm lv), (2, avb c), (7, int64 (i : Nat))], []⟩) _ ?_ l.length _ ⟨0, by simp, by simp [heldOf], rfl⟩
    rintro n _ ⟨i, hi, hall, rfl⟩
    by_cases hlt : i < l.length
    · obtain ⟨row, off, cap, rfl, hc, hcut, hget⟩ := reads_pos hl (List.getElem?_eq_getElem hlt)
      have e1 : IntKind.wrap .i64 ((i : Int) + 1) = (i : Int) + 1 := wrapI64 (by omega) (by omega)
      have htk : l.take (i + 1) = l.take i ++ [l[i]] := by rw [List.take_add_one, List.getElem?_eq_getElem hlt]; rfl
      have hmem := List.getElem_mem hlt
      generalize l[i] = v at hget htk hmem
      simp only [tVal] at hget
      have hv := refVal_spec (ext := ext) h h' hr v
      have g0 : row[off + i * 2]? = some (.val (.int .u8 v.k)) := cut_get hget 0 (by omega)
      by_cases hvv : valOf S v = true
      · by_cases hcc : decide (v.k = 7) = c
        · have g : (valOf S v && (decide (v.k = 7) == c)) = true := by rw [hvv, hcc]; simp
          refine ⟨.normal, ⟨0, [(0, .imm sv), (1, .imm (.slice row off l.length cap)), (2, avb c), (7, int64 ((i : Int) + 1))], []⟩, ?_, .inl ⟨rfl, n - 1, by omega, i + 1, by omega, ?_, rfl⟩⟩
          · simp -implicitDefEqProofs [x506L1, hlt, hget, g0, hv, hvv, hcc, e1]
          · rw [htk]; unfold heldOf at hall ⊢; rw [List.all_append, hall]; simp [g]
        · have g : (valOf S v && (decide (v.k = 7) == c)) = false := by rw [beq_eq_false_iff_ne.2 hcc]; simp
          have hcb : (decide (v.k = 7) == c) = false := beq_eq_false_iff_ne.2 hcc
          refine ⟨.ret, ⟨0, [(6, avb false)], []⟩, ?_, .inr ⟨by simp, .inr ⟨rfl, ?_, rfl⟩⟩⟩
          · simp -implicitDefEqProofs [x506L1, hlt, hget, g0, hv, hvv, hcb]
          · unfold heldOf; rw [List.all_eq_false]; exact ⟨v, hmem, by rw [g]; simp⟩
      · have hvf : valOf S v = false := by simpa using hvv
        refine ⟨.ret, ⟨0, [(6, avb false)], []⟩, ?_, .inr ⟨by simp, .inr ⟨rfl, ?_, rfl⟩⟩⟩
        · simp -implicitDefEqProofs [x506L1, hlt, hget, g0, hv, hvf]
        · unfold heldOf; rw [List.all_eq_false]; exact ⟨v, hmem, by simp [hvf]⟩
    · have : i = l.length := by omega
      subst this
      rw [List.take_length] at hall
      refine ⟨.exit 0, _, ?_, .inr ⟨by simp, .inl ⟨rfl, hall, rfl⟩⟩⟩
      simp -implicitDefEqProofs [x506L1, hlen]
  obtain ⟨e, s', l1, _, ⟨rfl, hh, rfl⟩ | ⟨rfl, hh, rfl⟩⟩ := loop
  · rw [callW_fun code ext h2, hh]
    simp -implicitDefEqProofs [x506, l1]
  · rw [callW_fun code ext h2, hh]
    simp -implicitDefEqProofs [x506, l1]

end
end Go.EX
