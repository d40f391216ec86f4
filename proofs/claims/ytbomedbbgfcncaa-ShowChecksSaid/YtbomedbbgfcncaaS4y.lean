/-
  EX: law 04: show's Check, whole.
-/
import Derived.Test.YtbomedbbgfcncaaS4x
import Derived.Test.YtbomedbbgfcncaaS4p
set_option linter.unusedVariables false
set_option linter.unusedSimpArgs false
namespace Go.EX

section
variable {code : Nat → Option XFun} {ext : Calls'}

theorem none_any (h8 : code 745 = some x745) (h9 : code 755 = some x755) (T : List Obj) :
    callW code ext 745 [nilS, .clo 647 [.optr 0 0]] [.rich [.osl 1 0 5 T.length (some (T.length + 1))], .flat (storeRow T) false] = some (avb false, [.rich [.osl 1 0 5 T.length (some (T.length + 1))], .flat (storeRow T) false]) := by
  have hl : den code ext (.loop [0, 1, 7, 8] x755L1) ⟨2, [(0, nilS), (1, .clo 647 [.optr 0 0]), (7, int64 0), (8, int64 0)], [.rich [.osl 1 0 5 T.length (some (T.length + 1))], .flat (storeRow T) false]⟩ = some (.exit 0, ⟨2, [(0, nilS), (1, .clo 647 [.optr 0 0]), (7, int64 0), (8, int64 0), (9, avb false)], [.rich [.osl 1 0 5 T.length (some (T.length + 1))], .flat (storeRow T) false]⟩) := by
    rw [den_loop]
    simp -implicitDefEqProofs [x755L1]
  have h5 : callW code ext 755 [nilS, .clo 647 [.optr 0 0]] [.rich [.osl 1 0 5 T.length (some (T.length + 1))], .flat (storeRow T) false] = some (int64 (-1), [.rich [.osl 1 0 5 T.length (some (T.length + 1))], .flat (storeRow T) false]) := by
    rw [callW_fun code ext h9]
    simp -implicitDefEqProofs [x755, hl]
  rw [callW_fun code ext h8]
  simp -implicitDefEqProofs [x745, h5]

theorem reach_any2 (T : List Obj) (out : List Nat) (x y : List AV) (z : List IV) : ∀ (n : Nat), reach [.flat (storeRow T) false, .rich x, .rich y, .flat z false, .rich (ptrs 0 out)] 198 (List.replicate n 0 ++ [0]) [4, 1] = [4, 1, 0]
  | 0 => by simp -implicitDefEqProofs [reach]
  | n + 1 => by
    rw [List.replicate_succ, List.cons_append, reach]
    simp -implicitDefEqProofs
    refine reach_done _ _ _ _ fun y hy => ?_
    rcases List.mem_append.1 hy with h | h
    · rw [List.eq_of_mem_replicate h]; simp
    · rw [List.mem_singleton.1 h]; simp

theorem check_spec (h : code 651 = some x651) (h' : code 656 = some x656) (h2 : code 653 = some x653) (h3 : code 759 = some x759) (h4 : code 749 = some x749) (h5 : code 650 = some x650) (h6 : code 652 = some x652) (h7 : code 647 = some x647) (h8 : code 745 = some x745) (h9 : code 755 = some x755) (h10 : code 654 = some x654) (h11 : code 655 = some x655) (h12 : code 646 = some x646)
    (T : List Obj) (hb : T.length ≤ 1048576) (v : Val) (hw : tVal.wf v) :
    ∃ b : Bool, callW code ext 646 [.osl 0 0 5 T.length (some (T.length + 1)), .agg [.imm (.val (.int .u8 v.k)), int64 v.n]] [.flat (storeRow T) false] = some (avb b, [.flat (storeRow T) false]) ∧ (b = true ↔ CheckOk T v) := by
  have hv := val_spec (ext := ext) h h' T hb v hw.2
  rw [callW_fun code ext h12]
  cases hvv : valOf T v with
  | false =>
    rw [hvv] at hv
    exact ⟨false, by simp -implicitDefEqProofs [x646, hv], by simp [CheckOk, hvv]⟩
  | true =>
    rw [hvv] at hv
    obtain ⟨out, hG, hre⟩ := reach1_spec (ext := ext) h h11 h10 T hb v hw
    have hmem : ∀ k, k ∈ out ↔ Reach T [v] k := hG.done (Nat.le_refl _)
    by_cases hne : out = []
    · subst hne
      simp only [reachOut1, if_true] at hre
      have hna := none_any (ext := ext) h8 h9 T
      refine ⟨true, by simp -implicitDefEqProofs [x646, hv, hre, hna], ?_⟩
      simp only [CheckOk, hvv, true_and, true_iff]
      intro k o hk
      have := (hmem k).2 hk
      cases this
    · simp only [reachOut1, if_neg hne] at hre
      obtain ⟨b, hany, hbo⟩ := anyObj_spec (ext := ext) h h' h2 h3 h4 h5 h6 h7 h8 h9 T hb out hG.short (fun q hq => ((hmem q).1 hq).lt)
      refine ⟨!b, ?_, ?_⟩
      · simp only [anyMem] at hany
        have hra := reach_any2 T out
        simp -implicitDefEqProofs [x646, hv, hre, hany, hra]
      · simp only [CheckOk, hvv, true_and]
        cases b with
        | true =>
          obtain ⟨k, o, hk, ho, hn⟩ := hbo.1 rfl
          simp only [Bool.not_true, Bool.false_eq_true, false_iff]
          exact fun hc => hn (hc k o ((hmem k).1 hk) ho)
        | false =>
          simp only [Bool.not_false, true_iff]
          intro k o hk ho
          exact Classical.byContradiction fun hc => by
            have := hbo.2 ⟨k, o, (hmem k).2 hk, ho, hc⟩
            cases this

end
end Go.EX
