/-
  EX: law 04: show's Check.
-/
import Derived.Test.YtbomedbbgfcncaaS4w
import Derived.Test.YtbomedbbgfcncaaS4u
set_option linter.unusedVariables false
set_option linter.unusedSimpArgs false
namespace Go.EX

section
variable {code : Nat → Option XFun} {ext : Calls'}

theorem not_may (h : code 651 = some x651) (h' : code 656 = some x656) (h2 : code 653 = some x653) (h3 : code 759 = some x759) (h4 : code 749 = some x749) (h5 : code 650 = some x650) (h6 : code 652 = some x652) (h7 : code 647 = some x647) (T : List Obj) (hb : T.length ≤ 1048576) (k : Nat) (o : Obj) (ho : T[k]? = some o) :
    ∃ b : Bool, callW code ext 647 [.optr 0 (k * 5), .optr 1 0] [.flat (storeRow T) false, .rich [.osl 0 0 5 T.length (some (T.length + 1))]] = some (avb b, [.flat (storeRow T) false, .rich [.osl 0 0 5 T.length (some (T.length + 1))]]) ∧ (b = true ↔ ¬ ObjOk T o) := by
  obtain ⟨b, hm, hbo⟩ := may_spec (ext := ext) h h' h2 h3 h4 h5 h6 T hb k o ho
  refine ⟨!b, ?_, by rw [← hbo]; simp⟩
  rw [callW_fun code ext h7]
  simp -implicitDefEqProofs [x647, hm]

theorem reach_any (T : List Obj) (out : List Nat) (x : List AV) : ∀ (n : Nat), reach [.rich (ptrs 2 out), .rich x, .flat (storeRow T) false] 198 (List.replicate n 2 ++ [2]) [0, 1] = [0, 1, 2]
  | 0 => by simp -implicitDefEqProofs [reach]
  | n + 1 => by
    rw [List.replicate_succ, List.cons_append, reach]
    simp -implicitDefEqProofs
    refine reach_done _ _ _ _ fun y hy => ?_
    rcases List.mem_append.1 hy with h | h
    · rw [List.eq_of_mem_replicate h]; simp
    · rw [List.mem_singleton.1 h]; simp

def anyMem (T : List Obj) (out : List Nat) : Mem := [.rich (ptrs 2 out), .rich [.osl 2 0 5 T.length (some (T.length + 1))], .flat (storeRow T) false]

theorem anyObj_spec (h : code 651 = some x651) (h' : code 656 = some x656) (h2 : code 653 = some x653) (h3 : code 759 = some x759) (h4 : code 749 = some x749) (h5 : code 650 = some x650) (h6 : code 652 = some x652) (h7 : code 647 = some x647) (h8 : code 745 = some x745) (h9 : code 755 = some x755) (T : List Obj) (hb : T.length ≤ 1048576) (out : List Nat) (hol : out.length ≤ T.length) (hlt : ∀ q ∈ out, q < T.length) :
    ∃ b : Bool, callW code ext 745 [.osl 0 0 1 out.length none, .clo 647 [.optr 1 0]] (anyMem T out) = some (avb b, anyMem T out) ∧ (b = true ↔ ∃ (k : Nat) (o : Obj), k ∈ out ∧ T[k]? = some o ∧ ¬ ObjOk T o) := by
  have loop : ∃ e s', den code ext (.loop [0, 1, 7, 8] x755L1) ⟨3, [(0, .osl 0 0 1 out.length none), (1, .clo 647 [.optr 1 0]), (7, int64 out.length), (8, int64 0)], anyMem T out⟩ = some (e, s') ∧ e ≠ .normal ∧
      ((e = .exit 0 ∧ (∀ (i k : Nat) (o : Obj), out[i]? = some k → T[k]? = some o → ObjOk T o) ∧ s' = ⟨3, [(0, .osl 0 0 1 out.length none), (1, .clo 647 [.optr 1 0]), (7, int64 out.length), (8, int64 out.length), (9, avb false)], anyMem T out⟩) ∨ (e = .ret ∧ (∃ (k : Nat) (o : Obj), k ∈ out ∧ T[k]? = some o ∧ ¬ ObjOk T o) ∧ ∃ i : Nat, s' = ⟨3, [(4, int64 (i : Nat))], anyMem T out⟩)) := by
    refine loop_rule (fun n s => ∃ (i : Nat), i + n = out.length ∧ (∀ (j k : Nat) (o : Obj), j < i → out[j]? = some k → T[k]? = some o → ObjOk T o) ∧ s = ⟨3, [(0, .osl 0 0 1 out.length none), (1, .clo 647 [.optr 1 0]), (7, int64 out.length), (8, int64 (i : Nat))], anyMem T out⟩) _ ?_ out.length _ ⟨0, by simp, fun j k o hj => by omega, rfl⟩
    rintro n _ ⟨i, hi, hall, rfl⟩
    by_cases hio : i < out.length
    · have hk := List.getElem?_eq_getElem hio
      have hkm := List.getElem_mem hio
      have hkT := hlt _ hkm
      have e1 : IntKind.wrap .i64 ((i : Int) + 1) = (i : Int) + 1 := wrapI64 (by omega) (by omega)
      generalize out[i] = k at hk hkm hkT
      have hTk := List.getElem?_eq_getElem hkT
      generalize T[k] = o at hTk
      have hp : (ptrs 2 out)[i]? = some (.optr 2 (k * 5)) := by simp [ptrs, hk]
      obtain ⟨b, hm, hbo⟩ := not_may (ext := ext) h h' h2 h3 h4 h5 h6 h7 T hb k o hTk
      cases b with
      | true =>
        refine ⟨.ret, ⟨3, [(4, int64 (i : Nat))], anyMem T out⟩, ?_, .inr ⟨by simp, .inr ⟨rfl, ⟨k, o, hkm, hTk, hbo.1 rfl⟩, i, rfl⟩⟩⟩
        simp -implicitDefEqProofs [x755L1, anyMem, hio, hp, hm]
      | false =>
        refine ⟨.normal, ⟨3, [(0, .osl 0 0 1 out.length none), (1, .clo 647 [.optr 1 0]), (7, int64 out.length), (8, int64 ((i : Int) + 1))], anyMem T out⟩, ?_, .inl ⟨rfl, n - 1, by omega, i + 1, by omega, ?_, rfl⟩⟩
        · simp -implicitDefEqProofs [x755L1, anyMem, hio, hp, hm, e1]
        · intro j k' o' hj h1 h2
          by_cases hji : j < i
          · exact hall j k' o' hji h1 h2
          · have : j = i := by omega
            subst this
            rw [hk] at h1; cases h1
            rw [hTk] at h2; cases h2
            exact Classical.byContradiction fun hc => by have := hbo.2 hc; cases this
    · have : i = out.length := by omega
      subst this
      refine ⟨.exit 0, _, ?_, .inr ⟨by simp, .inl ⟨rfl, fun i k o h1 h2 => hall i k o (List.getElem?_eq_some_iff.1 h1).1 h1 h2, rfl⟩⟩⟩
      simp -implicitDefEqProofs [x755L1, anyMem]
  have hidx : ∃ r : Int, callW code ext 755 [.osl 0 0 1 out.length none, .clo 647 [.optr 1 0]] (anyMem T out) = some (int64 r, anyMem T out) ∧ ((0 ≤ r) ↔ ∃ (k : Nat) (o : Obj), k ∈ out ∧ T[k]? = some o ∧ ¬ ObjOk T o) := by
    obtain ⟨e, s', g1, _, ⟨rfl, ha, rfl⟩ | ⟨rfl, ha, i, rfl⟩⟩ := loop
    · refine ⟨-1, ?_, ⟨fun h => by omega, ?_⟩⟩
      · rw [callW_fun code ext h9]
        simp only [anyMem] at g1 ⊢
        simp -implicitDefEqProofs [x755, g1]
      · rintro ⟨k, o, hk, ho, hn⟩
        obtain ⟨i, hi⟩ := List.getElem?_of_mem hk
        exact absurd (ha i k o hi ho) hn
    · refine ⟨i, ?_, ⟨fun _ => ha, fun _ => by omega⟩⟩
      rw [callW_fun code ext h9]
      simp only [anyMem] at g1 ⊢
      simp -implicitDefEqProofs [x755, g1]
  obtain ⟨r, hr, hri⟩ := hidx
  rw [callW_fun code ext h8]
  refine ⟨decide (0 ≤ r), ?_, by rw [decide_eq_true_eq, hri]⟩
  have hra := reach_any T out
  simp only [anyMem] at hr ⊢
  simp -implicitDefEqProofs [x745, hr, hra]

end
end Go.EX
