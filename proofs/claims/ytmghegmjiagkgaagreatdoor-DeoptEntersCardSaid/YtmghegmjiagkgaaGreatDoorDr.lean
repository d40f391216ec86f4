/-
  EX: the reference's Frame. The bodies of its loop are written by a program (genref.py).
-/
import Derived.Test.YtmghegmjiagkgaaGreatDoorDv
set_option linter.unusedVariables false
set_option linter.unusedSimpArgs false
namespace Go.EX
section
variable {code : Nat → Option XFun} {ext : Calls'}

theorem tellOf_kn {l : Loc} {regs : List Val} (h1 : ¬ (regs.length : Int) ≤ l.reg) (h2 : ¬ 0 ≤ l.reg) {v : Val} (h : tellOf l regs = some v) : v = ⟨l.k, l.n⟩ := by
  unfold tellOf at h
  rw [if_neg h1, if_neg h2] at h
  repeat' split at h
  all_goals first | (cases h; rfl) | cases h

set_option maxHeartbeats 4000000 in
theorem refBodyF (l : Loc) (pc : Int) (row : List IV) (off len : Nat) (cap : Option Nat) (i : Nat) (hlt : i < len) (hi : i < 1000000) {rv : IV} {regs : List Val} (hr : Reads tVal rv regs)
    (hget : cut row (off + i * 3) 3 = some [.val (.int .i64 l.reg), .val (.int .u8 l.k), .val (.int .i64 l.n)]) :
    den code ext x564L1 ⟨0, [(1, .imm rv), (2, .optr 0 0), (6, .imm (.val (.slice none 0 0))), (7, int64 (i : Nat))], [.rich [int64 pc, .imm (.slice row off len cap)]]⟩ = (match tellOf l regs with
      | some v => some (.normal, ⟨0, [(1, .imm rv), (2, .optr 0 0), (6, .osl 3 0 2 1 none), (7, int64 ((i : Int) + 1))], [.rich [int64 pc, .imm (.slice row off len cap)], .rich [int64 l.reg, .imm (.val (.int .u8 l.k)), int64 l.n], .flat [.val (.int .u8 (v).k), .val (.int .i64 (v).n)] false, .flat [.val (.int .u8 (v).k), .val (.int .i64 (v).n)] false]⟩)
      | none => some (.ret, ⟨0, [(4, .imm (.val (.slice none 0 0))), (5, int64 1)], [.rich [int64 pc, .imm (.slice row off len cap)], .rich [int64 l.reg, .imm (.val (.int .u8 l.k)), int64 l.n]]⟩)) := by
  have hlen := reads_len hr
  have e1 : IntKind.wrap .i64 ((i : Int) + 1) = (i : Int) + 1 := wrapI64 (by omega) (by omega)
  by_cases h1 : (regs.length : Int) ≤ l.reg
  · have ht : tellOf l regs = none := by simp [tellOf, h1]
    rw [ht]
    simp -implicitDefEqProofs [x564L1, hlt, hget, e1, hlen, h1, exAppendX, exAppend, elems]
  · by_cases h2 : 0 ≤ l.reg
    · have hlt2 : l.reg.toNat < regs.length := by omega
      obtain ⟨row2, off2, cap2, rfl, hc2, hcut2, hget2⟩ := reads_pos hr (List.getElem?_eq_getElem hlt2)
      have ht : tellOf l regs = some regs[l.reg.toNat] := by simp [tellOf, h1, h2, hlt2]
      rw [ht]
      generalize regs[l.reg.toNat] = w at hget2
      simp only [tVal] at hget2
      have h3 : l.reg < regs.length := by omega
      simp -implicitDefEqProofs [x564L1, hlt, hget, e1, h1, h2, h3, hget2, hlt2, exAppendX, exAppend, elems]
    · cases ht : tellOf l regs with
      | some v =>
        obtain rfl := tellOf_kn h1 h2 ht
        simp only [tellOf, if_neg h1, if_neg h2] at ht
        by_cases k2 : l.k = 2
        · simp -implicitDefEqProofs [x564L1, hlt, hget, e1, hlen, h1, h2, k2, exAppendX, exAppend, elems]
        · rw [if_neg k2] at ht
          by_cases k0 : l.k = 0
          · rw [if_pos k0] at ht
            by_cases n0 : l.n = 0
            · simp -implicitDefEqProofs [x564L1, hlt, hget, e1, hlen, h1, h2, k0, n0, exAppendX, exAppend, elems]
            · rw [if_neg n0] at ht; cases ht
          · rw [if_neg k0] at ht
            by_cases k1 : l.k = 1
            · rw [if_pos k1] at ht
              by_cases n0 : l.n = 0
              · simp -implicitDefEqProofs [x564L1, hlt, hget, e1, hlen, h1, h2, k1, n0, exAppendX, exAppend, elems]
              · rw [if_neg n0] at ht
                by_cases n1 : l.n = 1
                · simp -implicitDefEqProofs [x564L1, hlt, hget, e1, hlen, h1, h2, k1, n1, exAppendX, exAppend, elems]
                · rw [if_neg n1] at ht; cases ht
            · rw [if_neg k1] at ht; cases ht
      | none =>
        simp only [tellOf, if_neg h1, if_neg h2] at ht
        by_cases k2 : l.k = 2
        · rw [if_pos k2] at ht; cases ht
        · rw [if_neg k2] at ht
          by_cases k0 : l.k = 0
          · rw [if_pos k0] at ht
            by_cases n0 : l.n = 0
            · rw [if_pos n0] at ht; cases ht
            · by_cases n1 : l.n = 1
              · simp -implicitDefEqProofs [x564L1, hlt, hget, e1, hlen, h1, h2, k0, n1, exAppendX, exAppend, elems]
              · simp -implicitDefEqProofs [x564L1, hlt, hget, e1, hlen, h1, h2, k0, n0, n1, exAppendX, exAppend, elems]
          · by_cases k1 : l.k = 1
            · rw [if_neg k0, if_pos k1] at ht
              by_cases n0 : l.n = 0
              · rw [if_pos n0] at ht; cases ht
              · rw [if_neg n0] at ht
                by_cases n1 : l.n = 1
                · rw [if_pos n1] at ht; cases ht
                · simp -implicitDefEqProofs [x564L1, hlt, hget, e1, hlen, h1, h2, k1, n0, n1, exAppendX, exAppend, elems]
            · by_cases n0 : l.n = 0
              · simp -implicitDefEqProofs [x564L1, hlt, hget, e1, hlen, h1, h2, k2, k0, k1, n0, exAppendX, exAppend, elems]
              · by_cases n1 : l.n = 1
                · simp -implicitDefEqProofs [x564L1, hlt, hget, e1, hlen, h1, h2, k2, k0, k1, n1, exAppendX, exAppend, elems]
                · simp -implicitDefEqProofs [x564L1, hlt, hget, e1, hlen, h1, h2, k2, k0, k1, n0, n1, exAppendX, exAppend, elems]

set_option maxHeartbeats 4000000 in
theorem refBodyG (l : Loc) (pc : Int) (row : List IV) (off len : Nat) (cap : Option Nat) (i : Nat) (hlt : i < len) (hi : i < 1000000) (vs : List Val) (mv : Bool) (hvl : vs.length = i) (hi2 : i ≤ 20000) {rv : IV} {regs : List Val} (hr : Reads tVal rv regs)
    (hget : cut row (off + i * 3) 3 = some [.val (.int .i64 l.reg), .val (.int .u8 l.k), .val (.int .i64 l.n)]) :
    den code ext x564L1 ⟨0, [(1, .imm rv), (2, .optr 0 0), (6, .osl 1 0 2 i none), (7, int64 (i : Nat))], [.rich [int64 pc, .imm (.slice row off len cap)], .flat (tVal.row vs) mv]⟩ = (match tellOf l regs with
      | some v => some (.normal, ⟨0, [(1, .imm rv), (2, .optr 0 0), (6, .osl 1 0 2 (i + 1) none), (7, int64 ((i : Int) + 1))], [.rich [int64 pc, .imm (.slice row off len cap)], .flat (tVal.row (vs ++ [v])) true, .rich [int64 l.reg, .imm (.val (.int .u8 l.k)), int64 l.n], .flat [.val (.int .u8 (v).k), .val (.int .i64 (v).n)] false]⟩)
      | none => some (.ret, ⟨0, [(4, .imm (.val (.slice none 0 0))), (5, int64 1)], [.rich [int64 pc, .imm (.slice row off len cap)], .flat (tVal.row vs) mv, .rich [int64 l.reg, .imm (.val (.int .u8 l.k)), int64 l.n]]⟩)) := by
  have hlen := reads_len hr
  have e1 : IntKind.wrap .i64 ((i : Int) + 1) = (i : Int) + 1 := wrapI64 (by omega) (by omega)
  have hcut : cut (tVal.row vs) 0 (i * 2) = some (tVal.row vs) := by rw [← hvl]; exact cut_row tVal vs
  have hsn : ∀ v : Val, tVal.row vs ++ [.val (.int .u8 v.k), .val (.int .i64 v.n)] = tVal.row (vs ++ [v]) := fun v => row_snoc tVal vs v
  have hbd : (i + 1) * 16 ≤ 140737488355328 := by omega
  by_cases h1 : (regs.length : Int) ≤ l.reg
  · have ht : tellOf l regs = none := by simp [tellOf, h1]
    rw [ht]
    simp -implicitDefEqProofs [x564L1, hlt, hget, e1, hcut, hsn, hbd, hlen, h1, exAppendX, exAppend, elems] <;> exact hsn ⟨_, _⟩
  · by_cases h2 : 0 ≤ l.reg
    · have hlt2 : l.reg.toNat < regs.length := by omega
      obtain ⟨row2, off2, cap2, rfl, hc2, hcut2, hget2⟩ := reads_pos hr (List.getElem?_eq_getElem hlt2)
      have ht : tellOf l regs = some regs[l.reg.toNat] := by simp [tellOf, h1, h2, hlt2]
      rw [ht]
      generalize regs[l.reg.toNat] = w at hget2
      simp only [tVal] at hget2
      have h3 : l.reg < regs.length := by omega
      simp -implicitDefEqProofs [x564L1, hlt, hget, e1, hcut, hsn, hbd, h1, h2, h3, hget2, hlt2, exAppendX, exAppend, elems] <;> exact hsn ⟨_, _⟩
    · cases ht : tellOf l regs with
      | some v =>
        obtain rfl := tellOf_kn h1 h2 ht
        simp only [tellOf, if_neg h1, if_neg h2] at ht
        by_cases k2 : l.k = 2
        · simp -implicitDefEqProofs [x564L1, hlt, hget, e1, hcut, hsn, hbd, hlen, h1, h2, k2, exAppendX, exAppend, elems] <;> exact hsn ⟨_, _⟩
        · rw [if_neg k2] at ht
          by_cases k0 : l.k = 0
          · rw [if_pos k0] at ht
            by_cases n0 : l.n = 0
            · simp -implicitDefEqProofs [x564L1, hlt, hget, e1, hcut, hsn, hbd, hlen, h1, h2, k0, n0, exAppendX, exAppend, elems] <;> exact hsn ⟨_, _⟩
            · rw [if_neg n0] at ht; cases ht
          · rw [if_neg k0] at ht
            by_cases k1 : l.k = 1
            · rw [if_pos k1] at ht
              by_cases n0 : l.n = 0
              · simp -implicitDefEqProofs [x564L1, hlt, hget, e1, hcut, hsn, hbd, hlen, h1, h2, k1, n0, exAppendX, exAppend, elems] <;> exact hsn ⟨_, _⟩
              · rw [if_neg n0] at ht
                by_cases n1 : l.n = 1
                · simp -implicitDefEqProofs [x564L1, hlt, hget, e1, hcut, hsn, hbd, hlen, h1, h2, k1, n1, exAppendX, exAppend, elems] <;> exact hsn ⟨_, _⟩
                · rw [if_neg n1] at ht; cases ht
            · rw [if_neg k1] at ht; cases ht
      | none =>
        simp only [tellOf, if_neg h1, if_neg h2] at ht
        by_cases k2 : l.k = 2
        · rw [if_pos k2] at ht; cases ht
        · rw [if_neg k2] at ht
          by_cases k0 : l.k = 0
          · rw [if_pos k0] at ht
            by_cases n0 : l.n = 0
            · rw [if_pos n0] at ht; cases ht
            · by_cases n1 : l.n = 1
              · simp -implicitDefEqProofs [x564L1, hlt, hget, e1, hcut, hsn, hbd, hlen, h1, h2, k0, n1, exAppendX, exAppend, elems] <;> exact hsn ⟨_, _⟩
              · simp -implicitDefEqProofs [x564L1, hlt, hget, e1, hcut, hsn, hbd, hlen, h1, h2, k0, n0, n1, exAppendX, exAppend, elems] <;> exact hsn ⟨_, _⟩
          · by_cases k1 : l.k = 1
            · rw [if_neg k0, if_pos k1] at ht
              by_cases n0 : l.n = 0
              · rw [if_pos n0] at ht; cases ht
              · rw [if_neg n0] at ht
                by_cases n1 : l.n = 1
                · rw [if_pos n1] at ht; cases ht
                · simp -implicitDefEqProofs [x564L1, hlt, hget, e1, hcut, hsn, hbd, hlen, h1, h2, k1, n0, n1, exAppendX, exAppend, elems] <;> exact hsn ⟨_, _⟩
            · by_cases n0 : l.n = 0
              · simp -implicitDefEqProofs [x564L1, hlt, hget, e1, hcut, hsn, hbd, hlen, h1, h2, k2, k0, k1, n0, exAppendX, exAppend, elems] <;> exact hsn ⟨_, _⟩
              · by_cases n1 : l.n = 1
                · simp -implicitDefEqProofs [x564L1, hlt, hget, e1, hcut, hsn, hbd, hlen, h1, h2, k2, k0, k1, n1, exAppendX, exAppend, elems] <;> exact hsn ⟨_, _⟩
                · simp -implicitDefEqProofs [x564L1, hlt, hget, e1, hcut, hsn, hbd, hlen, h1, h2, k2, k0, k1, n0, n1, exAppendX, exAppend, elems] <;> exact hsn ⟨_, _⟩

/-- The reference's Frame, told by content. -/
def refOutV : List Val → AV
  | [] => .imm (.val (.slice none 0 0))
  | vs => .osl 1 0 2 vs.length none

def refOutM (mv : Bool) : List Val → Mem
  | [] => []
  | vs => [.flat (tVal.row vs) mv]

theorem ref_loop (pc : Int) (rv sv : IV) (slots : List Loc) (regs : List Val) (hr : Reads tVal rv regs) (hs : Reads tLoc sv slots) (hb : slots.length ≤ 20000) {s : St} (hst : s.tidy [1, 2, 6, 7] = ⟨0, [(1, .imm rv), (2, .optr 0 0), (6, .imm (.val (.slice none 0 0))), (7, int64 0)], [.rich [int64 pc, .imm sv]]⟩) :
    ∃ e s', den code ext (.loop [1, 2, 6, 7] x564L1) s = some (e, s') ∧ e ≠ .normal ∧
      ((e = .exit 0 ∧ ∃ vs mv, slots.mapM (tellOf · regs) = some vs ∧ s' = ⟨0, [(1, .imm rv), (2, .optr 0 0), (6, refOutV vs), (7, int64 slots.length), (13, avb false)], .rich [int64 pc, .imm sv] :: refOutM mv vs⟩) ∨
       (e = .ret ∧ slots.mapM (tellOf · regs) = none ∧ s'.k = 0 ∧ s'.env = [(4, .imm (.val (.slice none 0 0))), (5, int64 1)])) := by
  refine loop_rule (fun n s => ∃ i vs mv, i + n = slots.length ∧ vs.length = i ∧ (slots.take i).mapM (tellOf · regs) = some vs ∧
    s.tidy [1, 2, 6, 7] = ⟨0, [(1, .imm rv), (2, .optr 0 0), (6, refOutV vs), (7, int64 (i : Nat))], .rich [int64 pc, .imm sv] :: refOutM mv vs⟩) _ ?_ slots.length _ ⟨0, [], false, by simp, rfl, by simp, hst⟩
  rintro n s ⟨i, vs, mv, hi, hvl, hx, hst⟩
  rw [hst]
  by_cases hlt : i < slots.length
  · obtain ⟨row, off, cap, rfl, hc, hcut, hget⟩ := reads_pos hs (List.getElem?_eq_getElem hlt)
    simp only [tLoc] at hget
    have htk : slots.take (i + 1) = slots.take i ++ [slots[i]] := by rw [List.take_add_one, List.getElem?_eq_getElem hlt]; rfl
    cases vs with
    | nil =>
      have hi0 : i = 0 := by simpa using hvl.symm
      subst hi0
      have hb1 := refBodyF (code := code) (ext := ext) slots[0] pc row off slots.length cap 0 hlt (by omega) hr hget
      simp only [refOutV, refOutM]
      rw [hb1]
      cases hv : tellOf slots[0] regs with
      | some v =>
        refine ⟨.normal, _, rfl, .inl ⟨rfl, n - 1, by omega, 1, [v], false, by omega, rfl, by rw [htk, mapM_snoc, hx, hv]; rfl, ?_⟩⟩
        have h1 : tVal.row [v] = [.val (.int .u8 v.k), .val (.int .i64 v.n)] := rfl
        simp -implicitDefEqProofs [refOutV, refOutM, h1]
      | none =>
        exact ⟨.ret, _, rfl, .inr ⟨by simp, .inr ⟨rfl, mapM_none_take _ _ 1 (by rw [htk, mapM_snoc, hx, hv]; rfl), rfl, rfl⟩⟩⟩
    | cons w ws =>
      have hb1 := refBodyG (code := code) (ext := ext) slots[i] pc row off slots.length cap i hlt (by omega) (w :: ws) mv hvl (by omega) hr hget
      have ho : refOutV (w :: ws) = .osl 1 0 2 i none := by simp only [refOutV]; rw [hvl]
      have hb2 : ∀ r, den code ext x564L1 ⟨0, [(1, .imm rv), (2, .optr 0 0), (6, .osl 1 0 2 i none), (7, int64 (i : Nat))], [.rich [int64 pc, .imm (.slice row off slots.length cap)], .flat (tVal.row (w :: ws)) mv]⟩ = r → den code ext x564L1 ⟨0, [(1, .imm rv), (2, .optr 0 0), (6, refOutV (w :: ws)), (7, int64 (i : Nat))], .rich [int64 pc, .imm (.slice row off slots.length cap)] :: refOutM mv (w :: ws)⟩ = r := fun r h => by rw [ho]; exact h
      rw [hb2 _ hb1]
      cases hv : tellOf slots[i] regs with
      | some v =>
        refine ⟨.normal, _, rfl, .inl ⟨rfl, n - 1, by omega, i + 1, (w :: ws) ++ [v], true, by omega, by rw [List.length_append, hvl]; rfl, by rw [htk, mapM_snoc, hx, hv]; rfl, ?_⟩⟩
        have ho2 : refOutV (w :: ws ++ [v]) = .osl 1 0 2 (i + 1) none := by
          show AV.osl 1 0 2 (w :: ws ++ [v]).length none = _
          rw [List.length_append, hvl]; rfl
        have hm2 : refOutM true (w :: ws ++ [v]) = [.flat (tVal.row (w :: ws ++ [v])) true] := rfl
        rw [ho2, hm2]
        generalize w :: ws ++ [v] = us
        simp -implicitDefEqProofs
      | none =>
        exact ⟨.ret, _, rfl, .inr ⟨by simp, .inr ⟨rfl, mapM_none_take _ _ (i + 1) (by rw [htk, mapM_snoc, hx, hv]; rfl), rfl, rfl⟩⟩⟩
  · have : i = slots.length := by omega
    subst this
    rw [List.take_length] at hx
    refine ⟨.exit 0, _, ?_, .inr ⟨by simp, .inl ⟨rfl, vs, mv, hx, rfl⟩⟩⟩
    have hsl := reads_len hs
    generalize refOutV vs = o
    generalize refOutM mv vs = m
    simp -implicitDefEqProofs [x564L1, hsl]

theorem refFrame_spec (h : code 564 = some x564) (pc : Int) {rv sv : IV} {slots : List Loc} {regs : List Val} (hr : Reads tVal rv regs) (hs : Reads tLoc sv slots) (hb : slots.length ≤ 20000) :
    (slots.mapM (tellOf · regs) = none ∧ callW code ext 564 [.agg [int64 pc, .imm sv], .imm rv] [] = some (.tup [.imm (.val (.slice none 0 0)), int64 1], [])) ∨
    (slots.mapM (tellOf · regs) = some [] ∧ callW code ext 564 [.agg [int64 pc, .imm sv], .imm rv] [] = some (.tup [.imm (.val (.slice none 0 0)), int64 0], [])) ∨
    (∃ vs mv, slots.mapM (tellOf · regs) = some vs ∧ vs ≠ [] ∧ callW code ext 564 [.agg [int64 pc, .imm sv], .imm rv] [] = some (.tup [.osl 0 0 2 vs.length none, int64 0], [.flat (tVal.row vs) mv])) := by
  rw [callW_fun code ext h]
  obtain ⟨e, s', h1, _, h2⟩ := ref_loop (code := code) (ext := ext) pc rv sv slots regs hr hs hb (s := ⟨0, [(1, .imm rv), (2, .optr 0 0), (6, .imm (.val (.slice none 0 0))), (7, int64 0)], [.rich [int64 pc, .imm sv]]⟩) (by simp -implicitDefEqProofs)
  rcases h2 with ⟨rfl, vs, mv, h3, rfl⟩ | ⟨rfl, h3, h4, h5⟩
  · cases vs with
    | nil =>
      right; left
      refine ⟨h3, ?_⟩
      simp only [refOutV, refOutM] at h1
      simp -implicitDefEqProofs [x564, h1]
    | cons w ws =>
      right; right
      refine ⟨w :: ws, mv, h3, by simp, ?_⟩
      simp only [refOutV, refOutM] at h1
      generalize w :: ws = us at h1
      simp -implicitDefEqProofs [x564, h1]
  · left
    refine ⟨h3, ?_⟩
    simp -implicitDefEqProofs [x564, h1, h4, h5]

end
end Go.EX
