/-
  EX: law 04: show's reach, whole.
-/
import Derived.Test.YtbomedbbgfcncaaS4i
set_option linter.unusedVariables false
set_option linter.unusedSimpArgs false
namespace Go.EX

section
variable {code : Nat → Option XFun} {ext : Calls'}

abbrev reachEnv (i : Int) : Env := [(4, .optr 1 0), (6, .clo 655 [.optr 2 0, .optr 3 0, .optr 1 0]), (7, int64 i)]

/-- The objects of reach, something met. -/
def reachMem (T : List Obj) (out : List Nat) : Mem := [.flat (storeRow T) false, .rich [.osl 4 0 1 out.length none], .rich [.osl 0 0 5 T.length (some (T.length + 1))], .rich [.omap 5], .rich (ptrs 0 out), .map (seenL 0 out)]

theorem storeRow_list {T : List Obj} {k : Nat} {o : Obj} (h : T[k]? = some o) : (storeRow T)[k * 5 + 2]? = some o.l.iv := by
  have := cut_get (storeRow_get h) 2 (by omega)
  exact this

theorem reach_step (h : code 651 = some x651) (h' : code 655 = some x655) (T : List Obj) (hb : T.length ≤ 1048576) (out : List Nat) (hnd : out.Nodup) (hlt : ∀ q ∈ out, q < T.length) (i k : Nat) (hk : out[i]? = some k) (o : Obj) (ho : T[k]? = some o) :
    ∃ s', den code ext x654L1 ⟨1, reachEnv i, reachMem T out⟩ = some (.normal, s') ∧ s'.tidy [4, 6, 7] = ⟨1, reachEnv ((i : Int) + 1), reachMem T (addAll T out o.l.xs)⟩ := by
  have hi := (List.getElem?_eq_some_iff.1 hk).1
  have hlen := short_of T.length out hnd hlt
  have e1 : IntKind.wrap .i64 ((i : Int) + 1) = (i : Int) + 1 := wrapI64 (by omega) (by omega)
  have hp : (ptrs 0 out)[i]? = some (.optr 0 (k * 5)) := by simp [ptrs, hk]
  have hL := storeRow_list ho
  obtain ⟨o', tail', g1, g2, g3, g4⟩ := add_spec (ext := ext) h h' T hb o.l.iv o.l.xs o.l.ok 6 out (.osl 5 0 1 out.length none) [.rich (ptrs 3 out)] (.inr ⟨rfl, .inl ⟨rfl, rfl⟩⟩) rfl hnd hlt
  simp only [addBase, List.cons_append, List.nil_append] at g4
  by_cases he : addAll T out o.l.xs = out
  · obtain ⟨rfl, rfl⟩ := g2 he
    rw [he] at g4 ⊢
    refine ⟨⟨1, reachEnv ((i : Int) + 1), reachMem T out⟩, ?_, ?_⟩
    · simp -implicitDefEqProofs [x654L1, reachMem, hi, hp, hL, g4, e1]
    · simp -implicitDefEqProofs [reachMem]
  · have ho' := g3 he
    subst ho'
    generalize addAll T out o.l.xs = out' at *
    obtain rfl : tail' = [.dead, .rich (ptrs 3 out')] := by
      rcases g1 with ⟨h5, _⟩ | ⟨_, ⟨h6, _⟩ | ⟨_, h7⟩⟩
      · cases h5
      · cases h6
      · exact h7
    refine ⟨⟨1, reachEnv ((i : Int) + 1), [.flat (storeRow T) false, .rich [.osl 6 0 1 out'.length none], .rich [.osl 0 0 5 T.length (some (T.length + 1))], .rich [.omap 5], .dead, .map (seenL 0 out'), .rich (ptrs 0 out')]⟩, ?_, ?_⟩
    · simp -implicitDefEqProofs [x654L1, reachMem, hi, hp, hL, g4, e1]
    · simp -implicitDefEqProofs [reachMem]

def reachOut (T : List Obj) (out : List Nat) : AV × Mem := if out = [] then (nilS, [.flat (storeRow T) false]) else (.osl 1 0 1 out.length none, [.flat (storeRow T) false, .rich (ptrs 0 out)])

theorem reach_spec (h : code 651 = some x651) (h' : code 655 = some x655) (h2 : code 654 = some x654) (T : List Obj) (hb : T.length ≤ 1048576) {rv : IV} {roots : List Val} (hr : Reads tVal rv roots) :
    ∃ out, Grown T roots out out.length ∧ callW code ext 654 [.osl 0 0 5 T.length (some (T.length + 1)), .imm rv] [.flat (storeRow T) false] = some (reachOut T out) := by
  obtain ⟨o', tail', g1, g2, g3, g4⟩ := add_spec (ext := ext) h h' T hb rv roots hr 5 [] nilS [] (.inl ⟨rfl, .inl ⟨rfl, rfl, rfl⟩⟩) rfl (by simp) (by simp)
  have hs0 : seenL 3 [] = [] := rfl
  have hG := Grown.start T roots
  simp only [addBase, List.cons_append, List.nil_append, List.append_nil, hs0] at g4
  rw [callW_fun code ext h2]
  by_cases he : addAll T [] roots = []
  · rw [he] at g4 hG g1
    refine ⟨[], hG, ?_⟩
    rcases g1 with ⟨_, ⟨_, rfl, rfl⟩ | ⟨rfl, rfl⟩⟩ | ⟨h6, _⟩
    · have hl : den code ext (.loop [4, 6, 7] x654L1) ⟨1, [(4, .optr 2 0), (6, .clo 655 [.optr 1 0, .optr 4 0, .optr 2 0]), (7, int64 0)], [.flat (storeRow T) false, .rich [.osl 0 0 5 T.length (some (T.length + 1))], .rich [nilS], .map [], .rich [.omap 3]]⟩ =
          some (.exit 0, ⟨1, [(4, .optr 1 0), (6, .clo 655 [.optr 2 0, .optr 3 0, .optr 1 0]), (7, int64 0), (16, avb false)], [.flat (storeRow T) false, .rich [nilS], .rich [.osl 0 0 5 T.length (some (T.length + 1))], .rich [.omap 4], .map []]⟩) := by
        rw [den_loop]
        simp -implicitDefEqProofs [x654L1]
      simp -implicitDefEqProofs [x654, g4, hs0, hl, reachOut]
    · have hn := (g2 he).1
      cases hn
    · cases h6
  · have ho' := g3 he
    subst ho'
    generalize hout : addAll T [] roots = out0 at *
    obtain rfl : tail' = [.rich (ptrs 3 out0)] := by
      rcases g1 with ⟨_, ⟨h5, _⟩ | ⟨_, h5⟩⟩ | ⟨h6, _⟩
      · exact absurd h5 he
      · exact h5
      · cases h6
    have loop : ∀ s : St, s.tidy [4, 6, 7] = ⟨1, reachEnv 0, reachMem T out0⟩ → ∃ e s', den code ext (.loop [4, 6, 7] x654L1) s = some (e, s') ∧ e ≠ .normal ∧
        (e = .exit 0 ∧ ∃ out, out ≠ [] ∧ Grown T roots out out.length ∧ s' = ⟨1, reachEnv out.length ++ [(16, avb false)], reachMem T out⟩) := by
      intro s hst
      refine loop_rule (fun n s => ∃ (i : Nat) (out : List Nat), i ≤ out.length ∧ out ≠ [] ∧ n + i = T.length ∧ Grown T roots out i ∧ s.tidy [4, 6, 7] = ⟨1, reachEnv i, reachMem T out⟩) _ ?_ T.length s ⟨0, out0, by omega, he, by omega, hG, hst⟩
      clear hst hG hout he g1 g2 g3 g4
      rintro n s ⟨i, out, hio, hne, hn, hG, hst⟩
      rw [hst]
      have hlt : ∀ q ∈ out, q < T.length := fun q hq => (hG.reach q hq).lt
      by_cases hi : i < out.length
      · have hk := List.getElem?_eq_getElem hi
        have hko := hlt _ (List.getElem_mem hi)
        obtain ⟨s', q1, q2⟩ := reach_step (code := code) (ext := ext) h h' T hb out hG.nodup hlt i _ hk _ (List.getElem?_eq_getElem hko)
        have hG' := hG.next hk (List.getElem?_eq_getElem hko)
        have hs := hG.short
        obtain ⟨r, hr⟩ := addAll_pre T T[out[i]].l.xs out
        refine ⟨.normal, s', q1, .inl ⟨rfl, n - 1, by omega, i + 1, _, ?_, ?_, by omega, hG', by rw [q2]; rfl⟩⟩
        · rw [hr, List.length_append]; omega
        · rw [hr]; intro e; exact hne (List.append_eq_nil_iff.1 e).1
      · have : i = out.length := by omega
        subst this
        refine ⟨.exit 0, ⟨1, reachEnv out.length ++ [(16, avb false)], reachMem T out⟩, ?_, .inr ⟨by simp, rfl, out, hne, hG, rfl⟩⟩
        simp -implicitDefEqProofs [x654L1, reachMem]
    obtain ⟨e, s', l1, _, rfl, out, hne, hG', rfl⟩ := loop ⟨1, [(4, .optr 2 0), (6, .clo 655 [.optr 1 0, .optr 4 0, .optr 2 0]), (7, int64 0)], [.flat (storeRow T) false, .rich [.osl 0 0 5 T.length (some (T.length + 1))], .rich [.osl 5 0 1 out0.length none], .map (seenL 0 out0), .rich [.omap 3], .rich (ptrs 0 out0)]⟩ (by simp -implicitDefEqProofs [reachMem])
    refine ⟨out, hG', ?_⟩
    simp -implicitDefEqProofs [x654, g4, l1, reachMem, reachOut, hne]

end
end Go.EX
