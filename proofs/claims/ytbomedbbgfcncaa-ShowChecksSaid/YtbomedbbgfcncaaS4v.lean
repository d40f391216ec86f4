/-
  EX: law 04: show's reach from one value in place.
-/
import Derived.Test.YtbomedbbgfcncaaS4t
set_option linter.unusedVariables false
set_option linter.unusedSimpArgs false
namespace Go.EX

section
variable {code : Nat → Option XFun} {ext : Calls'}

abbrev oneObj (v : Val) : AObj := .flat [.val (.int .u8 v.k), .val (.int .i64 v.n)] false
abbrev oneEnv (i : Int) : Env := [(1, .optr 1 0), (2, .optr 2 0), (3, .optr 3 0), (8, .osl 0 0 2 1 (some 1)), (9, int64 1), (10, int64 i)]
def oneMem (T : List Obj) (v : Val) : Option Nat → Mem
  | none => [oneObj v, .rich [.osl 4 0 5 T.length (some (T.length + 1))], .rich [.omap 5], .rich [nilS], .flat (storeRow T) false, .map []]
  | some q => [oneObj v, .rich [.osl 4 0 5 T.length (some (T.length + 1))], .rich [.omap 5], .rich [.osl 6 0 1 1 none], .flat (storeRow T) false, .map (seenL 4 [q]), .rich (ptrs 4 [q])]

theorem one_step (h : code 651 = some x651) (T : List Obj) (hb : T.length ≤ 1048576) (v : Val) (hw : tVal.wf v) :
    ∃ s', den code ext x655L1 ⟨6, oneEnv 0, oneMem T v none⟩ = some (.normal, s') ∧ s'.tidy [1, 2, 3, 8, 9, 10] = ⟨6, oneEnv 1, oneMem T v (leadsOf T v)⟩ := by
  have hld := leadsP_spec (ext := ext) h T hb v hw.2
  have e1 : IntKind.wrap .i64 1 = 1 := rfl
  cases hq : leadsOf T v with
  | none =>
    rw [hq, leadAV] at hld
    simp only [oneMem]
    simp -implicitDefEqProofs [x655L1, hld, e1]
  | some q =>
    rw [hq, leadAV] at hld
    simp only [oneMem]
    have hf : ∀ m, findK m 3 (.optr 4 (q * 5)) [] 0 = some none := fun _ => rfl
    simp -implicitDefEqProofs [x655L1, hld, e1, hf, exAppendX, exAppend, exAppendR, elems, elemsR, seenL, ptrs]

theorem one_add (h : code 651 = some x651) (h' : code 655 = some x655) (T : List Obj) (hb : T.length ≤ 1048576) (v : Val) (hw : tVal.wf v) :
    callW code ext 655 [.osl 0 0 2 1 (some 1), .optr 1 0, .optr 2 0, .optr 3 0] (oneMem T v none) = some (.tup [], oneMem T v (leadsOf T v)) := by
  obtain ⟨s', g1, g2⟩ := one_step (ext := ext) h T hb v hw
  have hl : ∀ s, s.tidy [1, 2, 3, 8, 9, 10] = ⟨6, oneEnv 0, oneMem T v none⟩ → den code ext (.loop [1, 2, 3, 8, 9, 10] x655L1) s = some (.exit 0, ⟨6, oneEnv 1 ++ [(11, avb false)], oneMem T v (leadsOf T v)⟩) := by
    intro s hs
    rw [den_loop, hs, g1]
    simp only [andThen]
    rw [den_loop, g2]
    cases leadsOf T v with
    | none => simp -implicitDefEqProofs [x655L1, oneMem]
    | some q => simp -implicitDefEqProofs [x655L1, oneMem, ptrs, seenL]
  rw [callW_fun code ext h']
  have hl' := hl ⟨6, oneEnv 0, oneMem T v none⟩ (by simp -implicitDefEqProofs [oneMem])
  cases hq : leadsOf T v with
  | none =>
    rw [hq] at hl'
    simp only [oneMem] at hl' ⊢
    simp -implicitDefEqProofs [x655, hl']
  | some q =>
    rw [hq] at hl'
    simp only [oneMem, ptrs, seenL] at hl' ⊢
    simp -implicitDefEqProofs [x655, hl', ptrs, seenL]

end
end Go.EX
