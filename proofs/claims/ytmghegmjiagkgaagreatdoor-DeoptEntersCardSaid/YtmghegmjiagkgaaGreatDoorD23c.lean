/-
  EX: what the functions of law 23 come to: Frame.
-/
import Derived.Test.YtmghegmjiagkgaaGreatDoorD23
set_option linter.unusedVariables false
set_option linter.unusedSimpArgs false
namespace Go.EX

section
variable {code : Nat → Option XFun} {ext : Calls'}

theorem mapM_snoc {α β : Type} (f : α → Option β) (x : α) : ∀ (l : List α), (l ++ [x]).mapM f = (l.mapM f).bind fun ys => (f x).map fun y => ys ++ [y]
  | [] => by
    simp only [List.nil_append, List.mapM_cons, List.mapM_nil]
    cases f x <;> rfl
  | a :: l => by
    rw [List.cons_append, List.mapM_cons, List.mapM_cons, mapM_snoc f x l]
    cases f a with
    | none => rfl
    | some b => cases l.mapM f with
      | none => rfl
      | some c => cases f x <;> rfl

theorem mapM_none_take {α β : Type} (f : α → Option β) (l : List α) (i : Nat) (h : (l.take i).mapM f = none) : l.mapM f = none := by
  have e : l = l.take i ++ l.drop i := (List.take_append_drop i l).symm
  rw [e, List.mapM_append, h]; rfl

/-- A slice of Vals under way: what is done, zeros behind. -/
def rowOf (vs : List Val) (n : Nat) : List IV := tVal.row (vs ++ List.replicate n zVal)

theorem rowOf_len (vs : List Val) (n : Nat) : (rowOf vs n).length = (vs.length + n) * 2 := by
  unfold rowOf; rw [row_len]; simp [tVal]

theorem rowOf_set (vs : List Val) (n : Nat) (v : Val) : setAll (rowOf vs (n + 1)) (vs.length * 2) (tVal.enc v) = rowOf (vs ++ [v]) n := by
  have := setAll_flat (t := tVal) (xs := vs ++ List.replicate (n + 1) zVal) (by simp [tVal]) (i := vs.length) (by simp) v
  unfold rowOf
  rw [show vs.length * 2 = vs.length * tVal.sz from rfl, this]
  congr 1
  rw [List.set_append_right _ _ (Nat.le_refl _)]
  simp [List.replicate_succ]

theorem frame_loop (h : code 289 = some x289) (rv sv : IV) (slots : List Loc) (regs : List Val) (hr : Reads tVal rv regs) (hs : Reads tLoc sv slots) {s : St} (hst : s.tidy [1, 6, 14, 15, 16] = ⟨0, [(1, .imm rv), (6, .osl 0 0 2 slots.length (some slots.length)), (14, .imm sv), (15, int64 slots.length), (16, int64 0)], [.flat (rowOf [] slots.length) false]⟩) :
    ∃ e s', den code ext (.loop [1, 6, 14, 15, 16] x288L1) s = some (e, s') ∧ e ≠ .normal ∧
      ((e = .exit 0 ∧ ∃ vs, slots.mapM (tellOf · regs) = some vs ∧ s' = ⟨0, [(1, .imm rv), (6, .osl 0 0 2 slots.length (some slots.length)), (14, .imm sv), (15, int64 slots.length), (16, int64 slots.length), (17, avb false)], [.flat (rowOf vs 0) false]⟩) ∨
       (e = .ret ∧ slots.mapM (tellOf · regs) = none ∧ s'.k = 0 ∧ s'.env = [(4, .imm (.val (.slice none 0 0))), (5, int64 1)])) := by
  refine loop_rule (fun n s => ∃ i vs, i + n = slots.length ∧ vs.length = i ∧ (slots.take i).mapM (tellOf · regs) = some vs ∧
    s.tidy [1, 6, 14, 15, 16] = ⟨0, [(1, .imm rv), (6, .osl 0 0 2 slots.length (some slots.length)), (14, .imm sv), (15, int64 slots.length), (16, int64 (i : Nat))], [.flat (rowOf vs n) false]⟩) _ ?_ slots.length _ ⟨0, [], by simp, rfl, by simp, hst⟩
  rintro n s ⟨i, vs, hi, hvl, hx, hst⟩
  rw [hst]
  by_cases hlt : i < slots.length
  · obtain ⟨row, off, cap, rfl, hc, hcut, hget⟩ := reads_pos hs (List.getElem?_eq_getElem hlt)
    have hb := hs.2.1
    have e1 : IntKind.wrap .i64 ((i : Int) + 1) = (i : Int) + 1 := wrapI64 (by omega) (by omega)
    simp only [tLoc] at hget
    obtain ⟨m, rfl⟩ : ∃ m, n = m + 1 := ⟨n - 1, by omega⟩
    have htell := fun ho => tell_spec (ext := ext) h slots[i] hr (rowOf vs (m + 1)) false (i * 2) ho
    have ht := htell (by rw [rowOf_len]; omega)
    have htk : slots.take (i + 1) = slots.take i ++ [slots[i]] := by rw [List.take_add_one, List.getElem?_eq_getElem hlt]; rfl
    cases hv : tellOf slots[i] regs with
    | some v =>
      rw [hv, tellOut] at ht
      refine ⟨.normal, ⟨0, [(1, .imm rv), (6, .osl 0 0 2 slots.length (some slots.length)), (14, .imm (.slice row off slots.length cap)), (15, int64 slots.length), (16, int64 ((i : Int) + 1))], [.flat (rowOf (vs ++ [v]) m) false, .rich [int64 slots[i].reg, .imm (.val (.int .u8 slots[i].k)), int64 slots[i].n]]⟩, ?_, .inl ⟨rfl, m, by omega, i + 1, vs ++ [v], by omega, by simp [hvl], ?_, ?_⟩⟩
      · have hset := rowOf_set vs m v
        rw [hvl] at hset
        simp -implicitDefEqProofs [x288L1, hlt, hget, ht, hset, e1]
      · rw [htk, mapM_snoc, hx, hv]; rfl
      · simp -implicitDefEqProofs
    | none =>
      rw [hv, tellOut] at ht
      refine ⟨.ret, ⟨0, [(4, .imm (.val (.slice none 0 0))), (5, int64 1)], [AObj.flat (rowOf vs (m + 1)) false, AObj.rich [int64 slots[i].reg, .imm (.val (.int .u8 slots[i].k)), int64 slots[i].n]]⟩, ?_, .inr ⟨by simp, .inr ⟨rfl, mapM_none_take _ _ (i + 1) (by rw [htk, mapM_snoc, hx, hv]; rfl), rfl, rfl⟩⟩⟩
      simp -implicitDefEqProofs [x288L1, hlt, hget, ht, e1]
  · have : i = slots.length := by omega
    subst this
    have : n = 0 := by omega
    subst this
    refine ⟨.exit 0, _, ?_, .inr ⟨by simp, .inl ⟨rfl, vs, ?_, rfl⟩⟩⟩
    · simp -implicitDefEqProofs [x288L1]
    · rw [List.take_length] at hx; exact hx

/-- Frame's answer: the Vals, or nil and ErrArg. -/
def frameOut : Option (List Val) → Option (AV × Mem)
  | some vs => some (.tup [.osl 0 0 2 vs.length (some vs.length), int64 0], [.flat (tVal.row vs) false])
  | none => some (.tup [.imm (.val (.slice none 0 0)), int64 1], [])

theorem mapM_len {α β : Type} (f : α → Option β) : ∀ (l : List α) (ys : List β), l.mapM f = some ys → ys.length = l.length
  | [], ys, h => by simp at h; subst h; rfl
  | a :: l, ys, h => by
    simp only [List.mapM_cons, Option.bind_eq_bind, Option.pure_def] at h
    cases hf : f a with
    | none => rw [hf] at h; simp at h
    | some b =>
      cases hl : l.mapM f with
      | none => rw [hf, hl] at h; simp at h
      | some c => rw [hf, hl] at h; simp at h; subst h; simp [mapM_len f l c hl]

theorem frame_spec (h : code 289 = some x289) (h' : code 288 = some x288) (pc : Int) {rv sv : IV} {slots : List Loc} {regs : List Val} (hr : Reads tVal rv regs) (hs : Reads tLoc sv slots) (hb : slots.length ≤ 17592186044416) :
    callW code ext 288 [.agg [int64 pc, .imm sv], .imm rv] [] = frameOut (slots.mapM (tellOf · regs)) := by
  rw [callW_fun code ext h']
  obtain ⟨e, s', h1, _, h2⟩ := frame_loop (ext := ext) h rv sv slots regs hr hs (s := ⟨0, [(1, .imm rv), (6, .osl 1 0 2 slots.length (some slots.length)), (14, .imm sv), (15, int64 slots.length), (16, int64 0)], [.rich [int64 pc, .imm sv], .flat (rowOf [] slots.length) false]⟩) (by simp -implicitDefEqProofs)
  have hz : copies slots.length [IV.val (.int .u8 0), IV.val (.int .i64 0)] = rowOf [] slots.length := copies_flat (t := tVal) slots.length zVal
  have e2 : (16 : Int) * slots.length ≤ 281474976710656 := by omega
  have e3 : (slots.length : Int) ≤ 9223372036854775807 := by omega
  simp -implicitDefEqProofs [x288, reads_len hs, e2, e3, hz, h1]
  rcases h2 with ⟨rfl, vs, h3, rfl⟩ | ⟨rfl, h3, h4, h5⟩
  · have := mapM_len _ _ _ h3
    simp -implicitDefEqProofs [h3, frameOut, rowOf, this]
  · simp -implicitDefEqProofs [h3, frameOut, h4, h5]

end
end Go.EX
