/-
  EX: law 04: show's reach from one value in place: the whole.
-/
import Derived.Test.YtbomedbbgfcncaaS4v
set_option linter.unusedVariables false
set_option linter.unusedSimpArgs false
namespace Go.EX

section
variable {code : Nat → Option XFun} {ext : Calls'}

abbrev reachEnv1 (i : Int) : Env := [(4, .optr 2 0), (6, .clo 655 [.optr 3 0, .optr 4 0, .optr 2 0]), (7, int64 i)]
def reachMem1 (T : List Obj) (v : Val) (out : List Nat) : Mem := [.flat (storeRow T) false, oneObj v, .rich [.osl 5 0 1 out.length none], .rich [.osl 0 0 5 T.length (some (T.length + 1))], .rich [.omap 6], .rich (ptrs 0 out), .map (seenL 0 out)]

theorem reach_step1 (h : code 651 = some x651) (h' : code 655 = some x655) (T : List Obj) (hb : T.length ≤ 1048576) (v : Val) (out : List Nat) (hnd : out.Nodup) (hlt : ∀ q ∈ out, q < T.length) (i k : Nat) (hk : out[i]? = some k) (o : Obj) (ho : T[k]? = some o) :
    ∃ s', den code ext x654L1 ⟨2, reachEnv1 i, reachMem1 T v out⟩ = some (.normal, s') ∧ s'.tidy [4, 6, 7] = ⟨2, reachEnv1 ((i : Int) + 1), reachMem1 T v (addAll T out o.l.xs)⟩ := by
  have hi := (List.getElem?_eq_some_iff.1 hk).1
  have hlen := short_of T.length out hnd hlt
  have e1 : IntKind.wrap .i64 ((i : Int) + 1) = (i : Int) + 1 := wrapI64 (by omega) (by omega)
  have hp : (ptrs 0 out)[i]? = some (.optr 0 (k * 5)) := by simp [ptrs, hk]
  have hL := storeRow_list ho
  obtain ⟨o', tail', g1, g2, g3, g4⟩ := add_spec (ext := ext) h h' T hb o.l.iv o.l.xs o.l.ok 6 out (.osl 5 0 1 out.length none) [.rich (ptrs 3 out)] (.inr ⟨rfl, .inl ⟨rfl, rfl⟩⟩) rfl hnd hlt
  simp only [addBase, List.cons_append, List.nil_append] at g4
  by_cases he : addAll T out o.l.xs = out
  · obtain ⟨rfl, rfl⟩ := g2 he
    rw [he] at g4 ⊢
    refine ⟨⟨2, reachEnv1 ((i : Int) + 1), reachMem1 T v out⟩, ?_, ?_⟩
    · simp -implicitDefEqProofs [x654L1, reachMem1, hi, hp, hL, g4, e1]
    · simp -implicitDefEqProofs [reachMem1]
  · have ho' := g3 he
    subst ho'
    generalize addAll T out o.l.xs = out' at *
    obtain rfl : tail' = [.dead, .rich (ptrs 3 out')] := by
      rcases g1 with ⟨h5, _⟩ | ⟨_, ⟨h6, _⟩ | ⟨_, h7⟩⟩
      · cases h5
      · cases h6
      · exact h7
    refine ⟨⟨2, reachEnv1 ((i : Int) + 1), [.flat (storeRow T) false, oneObj v, .rich [.osl 7 0 1 out'.length none], .rich [.osl 0 0 5 T.length (some (T.length + 1))], .rich [.omap 6], .dead, .map (seenL 0 out'), .rich (ptrs 0 out')]⟩, ?_, ?_⟩
    · simp -implicitDefEqProofs [x654L1, reachMem1, hi, hp, hL, g4, e1]
    · simp -implicitDefEqProofs [reachMem1]

def reachOut1 (T : List Obj) (v : Val) (out : List Nat) : AV × Mem := if out = [] then (nilS, [.flat (storeRow T) false, oneObj v]) else (.osl 2 0 1 out.length none, [.flat (storeRow T) false, oneObj v, .rich (ptrs 0 out)])

theorem reach1_spec (h : code 651 = some x651) (h' : code 655 = some x655) (h2 : code 654 = some x654) (T : List Obj) (hb : T.length ≤ 1048576) (v : Val) (hw : tVal.wf v) :
    ∃ out, Grown T [v] out out.length ∧ callW code ext 654 [.osl 0 0 5 T.length (some (T.length + 1)), .osl 1 0 2 1 (some 1)] [.flat (storeRow T) false, oneObj v] = some (reachOut1 T v out) := by
  have g4 := one_add (ext := ext) h h' T hb v hw
  have hG := Grown.start T [v]
  rw [callW_fun code ext h2]
  cases hq : leadsOf T v with
  | none =>
    have he : addAll T [] [v] = [] := by simp [addAll, hq]
    rw [hq] at g4
    rw [he] at hG
    simp only [oneMem] at g4
    refine ⟨[], hG, ?_⟩
    have hl : den code ext (.loop [4, 6, 7] x654L1) ⟨2, [(4, .optr 3 0), (6, .clo 655 [.optr 2 0, .optr 5 0, .optr 3 0]), (7, int64 0)], [.flat (storeRow T) false, oneObj v, .rich [.osl 0 0 5 T.length (some (T.length + 1))], .rich [nilS], .map [], .rich [.omap 4]]⟩ =
          some (.exit 0, ⟨2, [(4, .optr 2 0), (6, .clo 655 [.optr 3 0, .optr 4 0, .optr 2 0]), (7, int64 0), (16, avb false)], [.flat (storeRow T) false, oneObj v, .rich [nilS], .rich [.osl 0 0 5 T.length (some (T.length + 1))], .rich [.omap 5], .map []]⟩) := by
      rw [den_loop]
      simp -implicitDefEqProofs [x654L1]
    simp -implicitDefEqProofs [x654, g4, hl, reachOut1]
  | some q =>
    have he : addAll T [] [v] = [q] := by simp [addAll, hq]
    rw [hq] at g4
    rw [he] at hG
    simp only [oneMem] at g4
    have loop : ∀ s : St, s.tidy [4, 6, 7] = ⟨2, reachEnv1 0, reachMem1 T v [q]⟩ → ∃ e s', den code ext (.loop [4, 6, 7] x654L1) s = some (e, s') ∧ e ≠ .normal ∧
        (e = .exit 0 ∧ ∃ out, out ≠ [] ∧ Grown T [v] out out.length ∧ s' = ⟨2, reachEnv1 out.length ++ [(16, avb false)], reachMem1 T v out⟩) := by
      intro s hst
      refine loop_rule (fun n s => ∃ (i : Nat) (out : List Nat), i ≤ out.length ∧ out ≠ [] ∧ n + i = T.length ∧ Grown T [v] out i ∧ s.tidy [4, 6, 7] = ⟨2, reachEnv1 i, reachMem1 T v out⟩) _ ?_ T.length s ⟨0, [q], by omega, by simp, by omega, hG, hst⟩
      clear hst hG he g4
      rintro n s ⟨i, out, hio, hne, hn, hG, hst⟩
      rw [hst]
      have hlt : ∀ q ∈ out, q < T.length := fun q hq => (hG.reach q hq).lt
      by_cases hi : i < out.length
      · have hk := List.getElem?_eq_getElem hi
        have hko := hlt _ (List.getElem_mem hi)
        obtain ⟨s', q1, q2⟩ := reach_step1 (code := code) (ext := ext) h h' T hb v out hG.nodup hlt i _ hk _ (List.getElem?_eq_getElem hko)
        have hG' := hG.next hk (List.getElem?_eq_getElem hko)
        have hs := hG.short
        obtain ⟨r, hr⟩ := addAll_pre T T[out[i]].l.xs out
        refine ⟨.normal, s', q1, .inl ⟨rfl, n - 1, by omega, i + 1, _, ?_, ?_, by omega, hG', by rw [q2]; rfl⟩⟩
        · rw [hr, List.length_append]; omega
        · rw [hr]; intro e; exact hne (List.append_eq_nil_iff.1 e).1
      · have : i = out.length := by omega
        subst this
        refine ⟨.exit 0, ⟨2, reachEnv1 out.length ++ [(16, avb false)], reachMem1 T v out⟩, ?_, .inr ⟨by simp, rfl, out, hne, hG, rfl⟩⟩
        simp -implicitDefEqProofs [x654L1, reachMem1]
    obtain ⟨e, s', l1, _, rfl, out, hne, hG', rfl⟩ := loop ⟨2, [(4, .optr 3 0), (6, .clo 655 [.optr 2 0, .optr 5 0, .optr 3 0]), (7, int64 0)], [.flat (storeRow T) false, oneObj v, .rich [.osl 0 0 5 T.length (some (T.length + 1))], .rich [.osl 6 0 1 1 none], .map (seenL 0 [q]), .rich [.omap 4], .rich (ptrs 0 [q])]⟩ (by simp -implicitDefEqProofs [reachMem1, ptrs, seenL])
    refine ⟨out, hG', ?_⟩
    simp -implicitDefEqProofs [x654, g4, l1, reachMem1, reachOut1, hne]

end
end Go.EX
