/-
  EX: law 04: show's reach: a list's values are put behind.
-/
import Derived.Test.YtbomedbbgfcncaaS4h
set_option linter.unusedVariables false
set_option linter.unusedSimpArgs false
namespace Go.EX

section
variable {code : Nat → Option XFun} {ext : Calls'}

/-- How the list of what was met stands among the objects (k of them were handed). -/
def AddShape (k : Nat) (out : List Nat) (o : AV) (tail : Mem) : Prop :=
  (k = 5 ∧ ((out = [] ∧ o = nilS ∧ tail = []) ∨ (o = .osl 5 0 1 out.length none ∧ tail = [.rich (ptrs 3 out)]))) ∨ (k = 6 ∧ ((o = .osl 5 0 1 out.length none ∧ tail = [.rich (ptrs 3 out)]) ∨ (o = .osl 6 0 1 out.length none ∧ tail = [.dead, .rich (ptrs 3 out)])))

theorem addAll_lt (S : List Obj) (l : List Val) (out : List Nat) (h : ∀ k ∈ out, k < S.length) : ∀ k ∈ addAll S out l, k < S.length := by
  intro k hk
  rcases (addAll_mem S l out k).1 hk with hk | ⟨v, _, hv⟩
  · exact h k hk
  · exact (leadsOf_some hv).1

theorem short_of (n : Nat) (out : List Nat) (h : out.Nodup) (hl : ∀ k ∈ out, k < n) : out.length ≤ n := by
  have hp : out.Perm ((List.range n).filter fun k => decide (k ∈ out)) := (List.perm_ext_iff_of_nodup h (List.nodup_range.filter _)).2 fun k => by
    rw [List.mem_filter, List.mem_range]
    exact ⟨fun hk => ⟨hl k hk, by simpa using hk⟩, fun hk => by simpa using hk.2⟩
  rw [hp.length_eq]
  exact Nat.le_trans (List.length_filter_le _ _) (by simp)

theorem add_loop (h : code 651 = some x651) (T : List Obj) (hb : T.length ≤ 1048576) (lv : IV) (l : List Val) (hl : Reads tVal lv l) (k : Nat) (out : List Nat) (o : AV) (tail : Mem) (hsh : AddShape k out o tail) (hnd : out.Nodup) (hlt : ∀ q ∈ out, q < T.length) {s : St}
    (hst : s.tidy [1, 2, 3, 8, 9, 10] = ⟨k, addEnv lv l.length 0, addBase T out o ++ tail⟩) :
    ∃ e s', den code ext (.loop [1, 2, 3, 8, 9, 10] x655L1) s = some (e, s') ∧ e ≠ .normal ∧
      (e = .exit 0 ∧ ∃ o' tail', AddShape k (addAll T out l) o' tail' ∧ (addAll T out l = out → o' = o ∧ tail' = tail) ∧ (addAll T out l ≠ out → o' = .osl k 0 1 (addAll T out l).length none) ∧
        s' = ⟨k, addEnv lv l.length l.length ++ [(11, avb false)], addBase T (addAll T out l) o' ++ tail'⟩) := by
  refine loop_rule (fun n s => ∃ (i : Nat) (out1 : List Nat) (o1 : AV) (tail1 : Mem), i + n = l.length ∧ addAll T out l = addAll T out1 (l.drop i) ∧ AddShape k out1 o1 tail1 ∧ out1.Nodup ∧ (∀ q ∈ out1, q < T.length) ∧
    (∃ r, out1 = out ++ r ∧ (r = [] → o1 = o ∧ tail1 = tail) ∧ (r ≠ [] → o1 = .osl k 0 1 out1.length none)) ∧ s.tidy [1, 2, 3, 8, 9, 10] = ⟨k, addEnv lv l.length i, addBase T out1 o1 ++ tail1⟩) _ ?_ l.length _ ⟨0, out, o, tail, by simp, by simp, hsh, hnd, hlt, ⟨[], by simp, fun _ => ⟨rfl, rfl⟩, fun h => absurd rfl h⟩, hst⟩
  clear hst hsh hnd hlt s
  rintro n s ⟨i, out1, o1, tail1, hi, ha, hsh, hnd, hlt, ⟨r, hr, hr1, hr2⟩, hst⟩
  rw [hst]
  by_cases hil : i < l.length
  · have hv := List.getElem?_eq_getElem hil
    rw [List.drop_eq_getElem_cons hil, addAll] at ha
    obtain ⟨row, off, cap, rfl, _, _, _⟩ := reads_pos hl hv
    generalize l[i] = v at hv ha
    cases hq : leadsOf T v with
    | none =>
      rw [hq] at ha
      obtain ⟨s', g1, g2⟩ := add_old (code := code) (ext := ext) h T hb row off cap l hl out1 i v hv (.inl hq) k o1 tail1 hsh
      exact ⟨.normal, s', g1, .inl ⟨rfl, n - 1, by omega, i + 1, out1, o1, tail1, by omega, ha, hsh, hnd, hlt, ⟨r, hr, hr1, hr2⟩, by rw [g2]; rfl⟩⟩
    | some q =>
      rw [hq] at ha
      by_cases hm : q ∈ out1
      · dsimp only at ha
        rw [if_pos hm] at ha
        obtain ⟨s', g1, g2⟩ := add_old (code := code) (ext := ext) h T hb row off cap l hl out1 i v hv (.inr ⟨q, hq, hm⟩) k o1 tail1 hsh
        exact ⟨.normal, s', g1, .inl ⟨rfl, n - 1, by omega, i + 1, out1, o1, tail1, by omega, ha, hsh, hnd, hlt, ⟨r, hr, hr1, hr2⟩, by rw [g2]; rfl⟩⟩
      · dsimp only at ha
        rw [if_neg hm] at ha
        have hlen := short_of T.length out1 hnd hlt
        obtain ⟨s', g1, g2⟩ := add_new (code := code) (ext := ext) h T hb row off cap l hl out1 (by omega) i v hv q hq hm k o1 tail1 hsh
        refine ⟨.normal, s', g1, .inl ⟨rfl, n - 1, by omega, i + 1, out1 ++ [q], .osl k 0 1 (out1.length + 1) none, (if k = 5 then [] else [.dead]) ++ [.rich (ptrs 3 (out1 ++ [q]))], by omega, ha, ?_, ?_, ?_, ⟨r ++ [q], by rw [hr]; simp, fun h => by simp at h, fun _ => by simp⟩, by rw [g2, List.append_assoc]; rfl⟩⟩
        · rcases hsh with ⟨rfl, _⟩ | ⟨rfl, _⟩
          · exact .inl ⟨rfl, .inr ⟨by simp, by simp⟩⟩
          · exact .inr ⟨rfl, .inr ⟨by simp, by simp⟩⟩
        · rw [List.nodup_append]
          exact ⟨hnd, by simp, fun a ha' b hb' => by simp at hb'; subst hb'; exact fun e => hm (e ▸ ha')⟩
        · intro p hp
          rw [List.mem_append, List.mem_singleton] at hp
          rcases hp with hp | rfl
          · exact hlt p hp
          · exact (leadsOf_some hq).1
  · have : i = l.length := by omega
    subst this
    rw [List.drop_eq_nil_of_le (Nat.le_refl _), addAll] at ha
    refine ⟨.exit 0, ⟨k, addEnv lv l.length l.length ++ [(11, avb false)], addBase T (addAll T out l) o1 ++ tail1⟩, ?_, .inr ⟨by simp, rfl, o1, tail1, by rw [ha]; exact hsh, fun he => hr1 ?_, fun he => ?_, rfl⟩⟩
    · rw [ha]
      simp -implicitDefEqProofs [x655L1]
    · rw [ha, hr] at he
      simpa using he
    · rw [ha]
      refine hr2 fun e => he ?_
      rw [ha, hr, e]; simp

theorem add_spec (h : code 651 = some x651) (h' : code 655 = some x655) (T : List Obj) (hb : T.length ≤ 1048576) (lv : IV) (l : List Val) (hl : Reads tVal lv l) (k : Nat) (out : List Nat) (o : AV) (tail : Mem) (hsh : AddShape k out o tail) (hk : (addBase T out o ++ tail).length = k) (hnd : out.Nodup) (hlt : ∀ q ∈ out, q < T.length) :
    ∃ o' tail', AddShape k (addAll T out l) o' tail' ∧ (addAll T out l = out → o' = o ∧ tail' = tail) ∧ (addAll T out l ≠ out → o' = .osl k 0 1 (addAll T out l).length none) ∧
      callW code ext 655 [.imm lv, .optr 0 0, .optr 1 0, .optr 2 0] (addBase T out o ++ tail) = some (.tup [], addBase T (addAll T out l) o' ++ tail') := by
  have hlen := reads_len hl
  obtain ⟨e, s', h1, _, rfl, o', tail', g1, g2, g3, rfl⟩ := add_loop (code := code) (ext := ext) h T hb lv l hl k out o tail hsh hnd hlt (s := ⟨k, addEnv lv l.length 0, addBase T out o ++ tail⟩) (by
    rcases hsh with ⟨rfl, ⟨rfl, rfl, rfl⟩ | ⟨rfl, rfl⟩⟩ | ⟨rfl, ⟨rfl, rfl⟩ | ⟨rfl, rfl⟩⟩ <;> simp -implicitDefEqProofs [addBase])
  refine ⟨o', tail', g1, g2, g3, ?_⟩
  rw [callW_fun code ext h', hk]
  generalize hM : addBase T out o ++ tail = M at h1 ⊢
  generalize hout : addAll T out l = out' at *
  clear hsh g2 g3 hk hM
  rcases g1 with ⟨rfl, ⟨rfl, rfl, rfl⟩ | ⟨rfl, rfl⟩⟩ | ⟨rfl, ⟨rfl, rfl⟩ | ⟨rfl, rfl⟩⟩
  · simp -implicitDefEqProofs [x655, hlen, h1, addBase]
  · simp -implicitDefEqProofs [x655, hlen, h1, addBase]
  · simp -implicitDefEqProofs [x655, hlen, h1, addBase]
  · simp -implicitDefEqProofs [x655, hlen, h1, addBase]

end
end Go.EX
