/-
  EX: a Book of lists of values: what it is made of; its marks.
-/
import Derived.Test.YtmghegmjiagkgaaGreatDoorCD
import Derived.Test.YtmghegmjiagkgaaGreatDoorDn
import Derived.Test.YtmghegmjiagkgaaGreatDoorK3
set_option linter.unusedVariables false
set_option linter.unusedSimpArgs false
namespace Go.EX

def nilB : AV := .imm (.val (.slice none 0 0))

/-- A mark. -/
def markV (i : Int) : Val := ⟨0, -1000 - i⟩

def bookB (n : Int) (v : AV) : List AV := [int64 n, nilB, nilB, nilB, v, nilB, nilB, nilB, nilB, nilB, nilB, nilB, nilB, nilB, nilB, nilB, nilB, nilB, nilB, nilB, nilB]

/-- A list when its first j items are marks. -/
def marks (i : Int) (j : Nat) (vs : List Val) : List Val := List.replicate j (markV i) ++ vs.drop j

theorem marks_zero (i : Int) (vs : List Val) : marks i 0 vs = vs := by simp [marks]

theorem marks_len (i : Int) {j : Nat} {vs : List Val} (h : j ≤ vs.length) : (marks i j vs).length = vs.length := by simp [marks]; omega

theorem marks_set (i : Int) {j : Nat} {vs : List Val} (h : j < vs.length) : (marks i j vs).set j (markV i) = marks i (j + 1) vs := by
  unfold marks
  rw [List.set_append_right _ _ (by simp)]
  simp only [List.length_replicate, Nat.sub_self]
  rw [List.drop_eq_getElem_cons h, List.set_cons_zero, List.replicate_succ']
  simp

theorem marks_row (i : Int) {j : Nat} {vs : List Val} (h : j < vs.length) : setAll (tVal.row (marks i j vs)) (j * 2) [.val (.int .u8 0), .val (.int .i64 (-1000 - i))] = tVal.row (marks i (j + 1) vs) := by
  rw [← marks_set i h]
  exact setAll_flat (t := tVal) (by decide) (by rw [marks_len i (Nat.le_of_lt h)]; exact h) (markV i)

theorem marks_rowlen (i : Int) {j : Nat} {vs : List Val} (h : j ≤ vs.length) : (tVal.row (marks i j vs)).length = vs.length * 2 := by
  rw [row_len, marks_len i h]; rfl

section
variable {code : Nat → Option XFun} {ext : Calls'}

theorem mark_spec (h : code 420 = some x420) (i : Int) (h0 : 0 ≤ i) (h1 : i ≤ 1000) : callW code ext 420 [int64 i] [] = some (.agg [.imm (.val (.int .u8 0)), int64 (-1000 - i)], []) := by
  rw [callW_fun code ext h]
  have e1 : IntKind.wrap .i64 (-1000 - i) = -1000 - i := wrapI64 (by omega) (by omega)
  simp -implicitDefEqProofs [x420, e1]

theorem is_spec (h : code 400 = some x400) (v : Val) (i : Int) (h0 : 0 ≤ i) (h1 : i ≤ 1000) : callW code ext 400 [.agg [.imm (.val (.int .u8 v.k)), int64 v.n], int64 i] [] = some (avb (decide (v.n = -1000 - i)), []) := by
  rw [callW_fun code ext h]
  have e1 : IntKind.wrap .i64 (-1000 - i) = -1000 - i := wrapI64 (by omega) (by omega)
  simp -implicitDefEqProofs [x400, e1]

set_option maxHeartbeats 1000000 in
theorem fillA2 (h : code 420 = some x420) (B : List AV) (L : List AV) (vs : List Val) (len : Nat) (cap : Option Nat) (c3 c4 : List IV) (m2 m3 m4 : Bool) (i0 : Int) (i : Int) (h0 : 0 ≤ i) (h1 : i ≤ 1000) (hlen : len ≤ vs.length) (hl63 : len ≤ 140737488355328)
    (v : AV) (hB : B = bookB 3 v) (hv : v = .osl 1 0 3 3 none) (l3 l4 : AV) (hl3 : l3 = .osl 3 0 2 len (some len)) (hl4 : l4 = .osl 4 0 2 len (some len))
    (hL : L = [.osl 2 0 2 len cap, nilB, int64 1, l3, nilB, int64 2, l4, nilB, int64 3]) {s : St}
    (hst : s.tidy [0, 2, 3, 4] = ⟨5, [(0, .optr 0 0), (2, int64 i0), (3, .optr 5 0), (4, int64 0)], [.rich B, .rich L, .flat (tVal.row vs) m2, .flat c3 m3, .flat c4 m4, .rich [.osl 2 0 2 len cap, nilB, int64 i]]⟩) :
    ∃ e s', den code ext (.loop [0, 2, 3, 4] x34L1) s = some (e, s') ∧ e ≠ .normal ∧ (e = .exit 2 ∧ s' = ⟨5, [(0, .optr 0 0), (2, int64 i0), (3, .optr 5 0), (4, int64 len), (25, avb false)], [.rich B, .rich L, .flat (tVal.row (marks i len vs)) m2, .flat c3 m3, .flat c4 m4, .rich [.osl 2 0 2 len cap, nilB, int64 i]]⟩) := by
  subst hB hv hL hl3 hl4
  refine loop_rule (fun n s => ∃ j, j + n = len ∧ s.tidy [0, 2, 3, 4] = ⟨5, [(0, .optr 0 0), (2, int64 i0), (3, .optr 5 0), (4, int64 (j : Nat))], [.rich (bookB 3 (.osl 1 0 3 3 none)), .rich [.osl 2 0 2 len cap, nilB, int64 1, .osl 3 0 2 len (some len), nilB, int64 2, .osl 4 0 2 len (some len), nilB, int64 3], .flat (tVal.row (marks i j vs)) m2, .flat c3 m3, .flat c4 m4, .rich [.osl 2 0 2 len cap, nilB, int64 i]]⟩) _ ?_ len _ ⟨0, by simp, by rw [hst, marks_zero]; rfl⟩
  rintro n s ⟨j, hj, hst⟩
  rw [hst]
  by_cases hlt : j < len
  · have hm := mark_spec (ext := ext) h i h0 h1
    have e1 : IntKind.wrap .i64 ((j : Int) + 1) = (j : Int) + 1 := wrapI64 (by omega) (by omega)
    have hset := marks_row i (j := j) (vs := vs) (by omega)
    have hrl := marks_rowlen i (j := j) (vs := vs) (by omega)
    have hfit : j * 2 + 2 ≤ vs.length * 2 := by omega
    refine ⟨.normal, ⟨5, [(0, .optr 0 0), (2, int64 i0), (3, .optr 5 0), (4, int64 ((j + 1 : Nat)))], [.rich (bookB 3 (.osl 1 0 3 3 none)), .rich [.osl 2 0 2 len cap, nilB, int64 1, .osl 3 0 2 len (some len), nilB, int64 2, .osl 4 0 2 len (some len), nilB, int64 3], .flat (tVal.row (marks i (j + 1) vs)) m2, .flat c3 m3, .flat c4 m4, .rich [.osl 2 0 2 len cap, nilB, int64 i]]⟩, ?_, .inl ⟨rfl, n - 1, by omega, j + 1, by omega, ?_⟩⟩
    · simp -implicitDefEqProofs [x34L1, hlt, hm, hset, hrl, hfit, e1, bookB, nilB]
    · simp -implicitDefEqProofs [bookB, nilB]
  · have : j = len := by omega
    subst this
    refine ⟨.exit 2, _, ?_, .inr ⟨by simp, rfl, rfl⟩⟩
    simp -implicitDefEqProofs [x34L1]

end
end Go.EX
