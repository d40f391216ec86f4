/-
  EX: law 04: the values of an object, as show's may asks.
-/
import Derived.Test.YtbomedbbgfcncaaS4p
set_option linter.unusedVariables false
set_option linter.unusedSimpArgs false
namespace Go.EX

section
variable {code : Nat → Option XFun} {ext : Calls'}

def badOf (T : List Obj) (o : Obj) (v : Val) : Bool := !valOf T v || (decide (v.k = 7) != decide (o.k = 6))

/-- The objects that the closure is handed. -/
def mayMem (T : List Obj) (k : Nat) : Mem := [.rich [.osl 2 0 5 T.length (some (T.length + 1))], .rich [.optr 2 (k * 5)], .flat (storeRow T) false]

theorem bad_spec (h : code 651 = some x651) (h' : code 656 = some x656) (h2 : code 653 = some x653) (T : List Obj) (hb : T.length ≤ 1048576) (k : Nat) (o : Obj) (ho : T[k]? = some o) (v : Val) (hv : (tInt .i64).wf v.n) :
    callW code ext 653 [.agg [.imm (.val (.int .u8 v.k)), int64 v.n], .optr 0 0, .optr 1 0] (mayMem T k) = some (avb (badOf T o v), mayMem T k) := by
  rw [callW_fun code ext h2]
  have hval := val_spec (ext := ext) h h' T hb v hv
  have g0 : (storeRow T)[k * 5]? = some (.val (.int .u8 o.k)) := cut_get (storeRow_get ho) 0 (by omega)
  cases hvv : valOf T v with
  | false =>
    rw [hvv] at hval
    simp -implicitDefEqProofs [x653, mayMem, hval, badOf, hvv]
  | true =>
    rw [hvv] at hval
    by_cases c7 : v.k = 7
    · have hval7 := hval
      rw [c7] at hval7
      have hvv7 := hvv
      by_cases c6 : o.k = 6
      · simp -implicitDefEqProofs [x653, mayMem, hval7, badOf, hvv, g0, c7, c6]
      · simp -implicitDefEqProofs [x653, mayMem, hval7, badOf, hvv, g0, c7, c6]
    · by_cases c6 : o.k = 6
      · simp -implicitDefEqProofs [x653, mayMem, hval, badOf, hvv, g0, c7, c6]
      · simp -implicitDefEqProofs [x653, mayMem, hval, badOf, hvv, g0, c7, c6]

theorem anyBad_spec (h : code 651 = some x651) (h' : code 656 = some x656) (h2 : code 653 = some x653) (h3 : code 759 = some x759) (h4 : code 749 = some x749) (T : List Obj) (hb : T.length ≤ 1048576) (k : Nat) (o : Obj) (ho : T[k]? = some o) {lv : IV} {l : List Val} (hl : Reads tVal lv l) :
    callW code ext 749 [.imm lv, .clo 653 [.optr 0 0, .optr 1 0]] (mayMem T k) = some (avb (l.any (badOf T o)), mayMem T k) := by
  have hlen := reads_len hl
  have hbl := hl.2.1
  have loop : ∃ e s', den code ext (.loop [0, 1, 7, 8] x759L1) ⟨3, [(0, .imm lv), (1, .clo 653 [.optr 0 0, .optr 1 0]), (7, int64 l.length), (8, int64 0)], mayMem T k⟩ = some (e, s') ∧ e ≠ .normal ∧
      ((e = .exit 0 ∧ l.any (badOf T o) = false ∧ s' = ⟨3, [(0, .imm lv), (1, .clo 653 [.optr 0 0, .optr 1 0]), (7, int64 l.length), (8, int64 l.length), (9, avb false)], mayMem T k⟩) ∨ (e = .ret ∧ l.any (badOf T o) = true ∧ ∃ i : Nat, s' = ⟨3, [(4, int64 (i : Nat))], mayMem T k⟩)) := by
    refine loop_rule (fun n s => ∃ (i : Nat), i + n = l.length ∧ (l.take i).any (badOf T o) = false ∧ s = ⟨3, [(0, .imm lv), (1, .clo 653 [.optr 0 0, .optr 1 0]), (7, int64 l.length), (8, int64 (i : Nat))], mayMem T k⟩) _ ?_ l.length _ ⟨0, by simp, by simp, rfl⟩
    rintro n _ ⟨i, hi, hall, rfl⟩
    by_cases hlt : i < l.length
    · obtain ⟨row, off, cap, rfl, hc, hcut, hget⟩ := reads_pos hl (List.getElem?_eq_getElem hlt)
      have e1 : IntKind.wrap .i64 ((i : Int) + 1) = (i : Int) + 1 := wrapI64 (by omega) (by omega)
      have htk : l.take (i + 1) = l.take i ++ [l[i]] := by rw [List.take_add_one, List.getElem?_eq_getElem hlt]; rfl
      have hmem := List.getElem_mem hlt
      have hw := (hl.1 _ hmem).2
      generalize l[i] = v at hget htk hmem hw
      simp only [tVal] at hget
      have hs := bad_spec (ext := ext) h h' h2 T hb k o ho v hw
      simp only [mayMem] at hs
      cases hbv : badOf T o v with
      | true =>
        rw [hbv] at hs
        refine ⟨.ret, ⟨3, [(4, int64 (i : Nat))], mayMem T k⟩, ?_, .inr ⟨by simp, .inr ⟨rfl, List.any_eq_true.2 ⟨v, hmem, hbv⟩, i, rfl⟩⟩⟩
        simp -implicitDefEqProofs [x759L1, mayMem, hlt, hget, hs]
      | false =>
        rw [hbv] at hs
        refine ⟨.normal, ⟨3, [(0, .imm (.slice row off l.length cap)), (1, .clo 653 [.optr 0 0, .optr 1 0]), (7, int64 l.length), (8, int64 ((i : Int) + 1))], mayMem T k⟩, ?_, .inl ⟨rfl, n - 1, by omega, i + 1, by omega, by rw [htk, List.any_append, hall]; simp [hbv], rfl⟩⟩
        simp -implicitDefEqProofs [x759L1, mayMem, hlt, hget, hs, e1]
    · have : i = l.length := by omega
      subst this
      rw [List.take_length] at hall
      refine ⟨.exit 0, _, ?_, .inr ⟨by simp, .inl ⟨rfl, hall, rfl⟩⟩⟩
      simp -implicitDefEqProofs [x759L1, mayMem]
  have hidx : ∃ r : Int, callW code ext 759 [.imm lv, .clo 653 [.optr 0 0, .optr 1 0]] (mayMem T k) = some (int64 r, mayMem T k) ∧ ((0 ≤ r) ↔ l.any (badOf T o) = true) := by
    obtain ⟨e, s', g1, _, ⟨rfl, ha, rfl⟩ | ⟨rfl, ha, i, rfl⟩⟩ := loop
    · refine ⟨-1, ?_, by rw [ha]; simp⟩
      rw [callW_fun code ext h3]
      simp only [mayMem] at g1 ⊢
      simp -implicitDefEqProofs [x759, hlen, g1]
    · refine ⟨i, ?_, by rw [ha]; simp⟩
      rw [callW_fun code ext h3]
      simp only [mayMem] at g1 ⊢
      simp -implicitDefEqProofs [x759, hlen, g1]
  obtain ⟨r, hr, hri⟩ := hidx
  rw [callW_fun code ext h4]
  have hdec : decide (0 ≤ r) = l.any (badOf T o) := by
    cases ha : l.any (badOf T o) with
    | true => simpa using hri.2 ha
    | false => simp only [decide_eq_false_iff_not]; intro hc; rw [hri.1 hc] at ha; cases ha
  simp only [mayMem] at hr ⊢
  simp -implicitDefEqProofs [x749, hr, hdec]

theorem any_held (T : List Obj) (o : Obj) (l : List Val) : l.any (badOf T o) = !heldOf T l (decide (o.k = 6)) := by
  unfold heldOf
  induction l with
  | nil => rfl
  | cons v l ih =>
    rw [List.any_cons, List.all_cons, ih, Bool.not_and]
    congr 1
    unfold badOf
    cases valOf T v <;> cases decide (v.k = 7) <;> cases decide (o.k = 6) <;> rfl

end
end Go.EX
