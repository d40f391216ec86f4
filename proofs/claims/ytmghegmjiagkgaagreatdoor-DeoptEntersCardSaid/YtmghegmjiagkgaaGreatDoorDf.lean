/-
  EX: a Book with three lists of values: its fill. Written by a program (genvals.py).
-/
import Derived.Test.YtmghegmjiagkgaaGreatDoorDe
set_option linter.unusedVariables false
set_option linter.unusedSimpArgs false
namespace Go.EX
section
variable {code : Nat → Option XFun} {ext : Calls'}

set_option maxHeartbeats 1000000 in
theorem fillA0_loop (h : code 420 = some x420) (n m : Nat) (m2 m3 m4 : Bool) (v2 v3 v4 vs : List Val) (i0 i : Int) (h0 : 0 ≤ i) (h1 : i ≤ 1000) (hlen : n ≤ vs.length) (hl : n ≤ 140737488355328) {s : St}
    (hst : s.tidy [0, 2, 3, 4] = ⟨5, [(0, .optr 0 0), (2, int64 i0), (3, .optr 5 0), (4, int64 0)], [.rich (bookB 3 (.osl 1 0 3 3 none)), .rich [.osl 2 0 2 n (some (n + 1)), nilB, int64 1, .osl 3 0 2 m (some m), nilB, int64 2, .osl 4 0 2 m (some m), nilB, int64 3], .flat (tVal.row (vs)) m2, .flat (tVal.row (v3)) m3, .flat (tVal.row (v4)) m4, .rich [.osl 2 0 2 n (some (n + 1)), nilB, int64 i]]⟩) :
    den code ext (.loop [0, 2, 3, 4] x34L1) s = some (.exit 2, ⟨5, [(0, .optr 0 0), (2, int64 i0), (3, .optr 5 0), (4, int64 (n : Nat)), (25, avb false)], [.rich (bookB 3 (.osl 1 0 3 3 none)), .rich [.osl 2 0 2 n (some (n + 1)), nilB, int64 1, .osl 3 0 2 m (some m), nilB, int64 2, .osl 4 0 2 m (some m), nilB, int64 3], .flat (tVal.row (marks i n vs)) m2, .flat (tVal.row (v3)) m3, .flat (tVal.row (v4)) m4, .rich [.osl 2 0 2 n (some (n + 1)), nilB, int64 i]]⟩) := by
  obtain ⟨e, s', h2, _, rfl, rfl⟩ := loop_rule (code := code) (ext := ext) (keep := [0, 2, 3, 4]) (b := x34L1) (fun c s => ∃ j, j + c = n ∧ s.tidy [0, 2, 3, 4] = ⟨5, [(0, .optr 0 0), (2, int64 i0), (3, .optr 5 0), (4, int64 (j : Nat))], [.rich (bookB 3 (.osl 1 0 3 3 none)), .rich [.osl 2 0 2 n (some (n + 1)), nilB, int64 1, .osl 3 0 2 m (some m), nilB, int64 2, .osl 4 0 2 m (some m), nilB, int64 3], .flat (tVal.row (marks i j vs)) m2, .flat (tVal.row (v3)) m3, .flat (tVal.row (v4)) m4, .rich [.osl 2 0 2 n (some (n + 1)), nilB, int64 i]]⟩)
    (fun e s' => e = .exit 2 ∧ s' = ⟨5, [(0, .optr 0 0), (2, int64 i0), (3, .optr 5 0), (4, int64 (n : Nat)), (25, avb false)], [.rich (bookB 3 (.osl 1 0 3 3 none)), .rich [.osl 2 0 2 n (some (n + 1)), nilB, int64 1, .osl 3 0 2 m (some m), nilB, int64 2, .osl 4 0 2 m (some m), nilB, int64 3], .flat (tVal.row (marks i n vs)) m2, .flat (tVal.row (v3)) m3, .flat (tVal.row (v4)) m4, .rich [.osl 2 0 2 n (some (n + 1)), nilB, int64 i]]⟩) (fun c s => by
    rintro ⟨j, hj, hst⟩
    rw [hst]
    by_cases hlt : j < n
    · have hm := mark_spec (ext := ext) h i h0 h1
      have e1 : IntKind.wrap .i64 ((j : Int) + 1) = (j : Int) + 1 := wrapI64 (by omega) (by omega)
      have hset := marks_row i (j := j) (vs := vs) (by omega)
      have hrl := marks_rowlen i (j := j) (vs := vs) (by omega)
      have hfit : j * 2 + 2 ≤ vs.length * 2 := by omega
      refine ⟨.normal, ⟨5, [(0, .optr 0 0), (2, int64 i0), (3, .optr 5 0), (4, int64 ((j + 1 : Nat)))], [.rich (bookB 3 (.osl 1 0 3 3 none)), .rich [.osl 2 0 2 n (some (n + 1)), nilB, int64 1, .osl 3 0 2 m (some m), nilB, int64 2, .osl 4 0 2 m (some m), nilB, int64 3], .flat (tVal.row (marks i (j + 1) vs)) m2, .flat (tVal.row (v3)) m3, .flat (tVal.row (v4)) m4, .rich [.osl 2 0 2 n (some (n + 1)), nilB, int64 i]]⟩, ?_, .inl ⟨rfl, c - 1, by omega, j + 1, by omega, ?_⟩⟩
      · simp -implicitDefEqProofs [x34L1, hlt, hm, hset, hrl, hfit, e1, bookB, nilB]
      · simp -implicitDefEqProofs [bookB, nilB]
    · have : j = n := by omega
      subst this
      refine ⟨.exit 2, _, ?_, .inr ⟨by simp, rfl, rfl⟩⟩
      simp -implicitDefEqProofs [x34L1]) n s ⟨0, by simp, by rw [hst, marks_zero]; rfl⟩
  exact h2

set_option maxHeartbeats 1000000 in
theorem fillA1_loop (h : code 420 = some x420) (n m : Nat) (m2 m3 m4 : Bool) (v2 v3 v4 vs : List Val) (i0 i : Int) (h0 : 0 ≤ i) (h1 : i ≤ 1000) (hlen : m ≤ vs.length) (hl : m ≤ 140737488355328) {s : St}
    (hst : s.tidy [0, 2, 3, 4] = ⟨5, [(0, .optr 0 0), (2, int64 i0), (3, .optr 5 0), (4, int64 0)], [.rich (bookB 3 (.osl 1 0 3 3 none)), .rich [.osl 2 0 2 n (some (n + 1)), nilB, int64 1, .osl 3 0 2 m (some m), nilB, int64 2, .osl 4 0 2 m (some m), nilB, int64 3], .flat (tVal.row (v2)) m2, .flat (tVal.row (vs)) m3, .flat (tVal.row (v4)) m4, .rich [.osl 3 0 2 m (some m), nilB, int64 i]]⟩) :
    den code ext (.loop [0, 2, 3, 4] x34L1) s = some (.exit 2, ⟨5, [(0, .optr 0 0), (2, int64 i0), (3, .optr 5 0), (4, int64 (m : Nat)), (25, avb false)], [.rich (bookB 3 (.osl 1 0 3 3 none)), .rich [.osl 2 0 2 n (some (n + 1)), nilB, int64 1, .osl 3 0 2 m (some m), nilB, int64 2, .osl 4 0 2 m (some m), nilB, int64 3], .flat (tVal.row (v2)) m2, .flat (tVal.row (marks i m vs)) m3, .flat (tVal.row (v4)) m4, .rich [.osl 3 0 2 m (some m), nilB, int64 i]]⟩) := by
  obtain ⟨e, s', h2, _, rfl, rfl⟩ := loop_rule (code := code) (ext := ext) (keep := [0, 2, 3, 4]) (b := x34L1) (fun c s => ∃ j, j + c = m ∧ s.tidy [0, 2, 3, 4] = ⟨5, [(0, .optr 0 0), (2, int64 i0), (3, .optr 5 0), (4, int64 (j : Nat))], [.rich (bookB 3 (.osl 1 0 3 3 none)), .rich [.osl 2 0 2 n (some (n + 1)), nilB, int64 1, .osl 3 0 2 m (some m), nilB, int64 2, .osl 4 0 2 m (some m), nilB, int64 3], .flat (tVal.row (v2)) m2, .flat (tVal.row (marks i j vs)) m3, .flat (tVal.row (v4)) m4, .rich [.osl 3 0 2 m (some m), nilB, int64 i]]⟩)
    (fun e s' => e = .exit 2 ∧ s' = ⟨5, [(0, .optr 0 0), (2, int64 i0), (3, .optr 5 0), (4, int64 (m : Nat)), (25, avb false)], [.rich (bookB 3 (.osl 1 0 3 3 none)), .rich [.osl 2 0 2 n (some (n + 1)), nilB, int64 1, .osl 3 0 2 m (some m), nilB, int64 2, .osl 4 0 2 m (some m), nilB, int64 3], .flat (tVal.row (v2)) m2, .flat (tVal.row (marks i m vs)) m3, .flat (tVal.row (v4)) m4, .rich [.osl 3 0 2 m (some m), nilB, int64 i]]⟩) (fun c s => by
    rintro ⟨j, hj, hst⟩
    rw [hst]
    by_cases hlt : j < m
    · have hm := mark_spec (ext := ext) h i h0 h1
      have e1 : IntKind.wrap .i64 ((j : Int) + 1) = (j : Int) + 1 := wrapI64 (by omega) (by omega)
      have hset := marks_row i (j := j) (vs := vs) (by omega)
      have hrl := marks_rowlen i (j := j) (vs := vs) (by omega)
      have hfit : j * 2 + 2 ≤ vs.length * 2 := by omega
      refine ⟨.normal, ⟨5, [(0, .optr 0 0), (2, int64 i0), (3, .optr 5 0), (4, int64 ((j + 1 : Nat)))], [.rich (bookB 3 (.osl 1 0 3 3 none)), .rich [.osl 2 0 2 n (some (n + 1)), nilB, int64 1, .osl 3 0 2 m (some m), nilB, int64 2, .osl 4 0 2 m (some m), nilB, int64 3], .flat (tVal.row (v2)) m2, .flat (tVal.row (marks i (j + 1) vs)) m3, .flat (tVal.row (v4)) m4, .rich [.osl 3 0 2 m (some m), nilB, int64 i]]⟩, ?_, .inl ⟨rfl, c - 1, by omega, j + 1, by omega, ?_⟩⟩
      · simp -implicitDefEqProofs [x34L1, hlt, hm, hset, hrl, hfit, e1, bookB, nilB]
      · simp -implicitDefEqProofs [bookB, nilB]
    · have : j = m := by omega
      subst this
      refine ⟨.exit 2, _, ?_, .inr ⟨by simp, rfl, rfl⟩⟩
      simp -implicitDefEqProofs [x34L1]) m s ⟨0, by simp, by rw [hst, marks_zero]; rfl⟩
  exact h2

set_option maxHeartbeats 1000000 in
theorem fillA2_loop (h : code 420 = some x420) (n m : Nat) (m2 m3 m4 : Bool) (v2 v3 v4 vs : List Val) (i0 i : Int) (h0 : 0 ≤ i) (h1 : i ≤ 1000) (hlen : m ≤ vs.length) (hl : m ≤ 140737488355328) {s : St}
    (hst : s.tidy [0, 2, 3, 4] = ⟨5, [(0, .optr 0 0), (2, int64 i0), (3, .optr 5 0), (4, int64 0)], [.rich (bookB 3 (.osl 1 0 3 3 none)), .rich [.osl 2 0 2 n (some (n + 1)), nilB, int64 1, .osl 3 0 2 m (some m), nilB, int64 2, .osl 4 0 2 m (some m), nilB, int64 3], .flat (tVal.row (v2)) m2, .flat (tVal.row (v3)) m3, .flat (tVal.row (vs)) m4, .rich [.osl 4 0 2 m (some m), nilB, int64 i]]⟩) :
    den code ext (.loop [0, 2, 3, 4] x34L1) s = some (.exit 2, ⟨5, [(0, .optr 0 0), (2, int64 i0), (3, .optr 5 0), (4, int64 (m : Nat)), (25, avb false)], [.rich (bookB 3 (.osl 1 0 3 3 none)), .rich [.osl 2 0 2 n (some (n + 1)), nilB, int64 1, .osl 3 0 2 m (some m), nilB, int64 2, .osl 4 0 2 m (some m), nilB, int64 3], .flat (tVal.row (v2)) m2, .flat (tVal.row (v3)) m3, .flat (tVal.row (marks i m vs)) m4, .rich [.osl 4 0 2 m (some m), nilB, int64 i]]⟩) := by
  obtain ⟨e, s', h2, _, rfl, rfl⟩ := loop_rule (code := code) (ext := ext) (keep := [0, 2, 3, 4]) (b := x34L1) (fun c s => ∃ j, j + c = m ∧ s.tidy [0, 2, 3, 4] = ⟨5, [(0, .optr 0 0), (2, int64 i0), (3, .optr 5 0), (4, int64 (j : Nat))], [.rich (bookB 3 (.osl 1 0 3 3 none)), .rich [.osl 2 0 2 n (some (n + 1)), nilB, int64 1, .osl 3 0 2 m (some m), nilB, int64 2, .osl 4 0 2 m (some m), nilB, int64 3], .flat (tVal.row (v2)) m2, .flat (tVal.row (v3)) m3, .flat (tVal.row (marks i j vs)) m4, .rich [.osl 4 0 2 m (some m), nilB, int64 i]]⟩)
    (fun e s' => e = .exit 2 ∧ s' = ⟨5, [(0, .optr 0 0), (2, int64 i0), (3, .optr 5 0), (4, int64 (m : Nat)), (25, avb false)], [.rich (bookB 3 (.osl 1 0 3 3 none)), .rich [.osl 2 0 2 n (some (n + 1)), nilB, int64 1, .osl 3 0 2 m (some m), nilB, int64 2, .osl 4 0 2 m (some m), nilB, int64 3], .flat (tVal.row (v2)) m2, .flat (tVal.row (v3)) m3, .flat (tVal.row (marks i m vs)) m4, .rich [.osl 4 0 2 m (some m), nilB, int64 i]]⟩) (fun c s => by
    rintro ⟨j, hj, hst⟩
    rw [hst]
    by_cases hlt : j < m
    · have hm := mark_spec (ext := ext) h i h0 h1
      have e1 : IntKind.wrap .i64 ((j : Int) + 1) = (j : Int) + 1 := wrapI64 (by omega) (by omega)
      have hset := marks_row i (j := j) (vs := vs) (by omega)
      have hrl := marks_rowlen i (j := j) (vs := vs) (by omega)
      have hfit : j * 2 + 2 ≤ vs.length * 2 := by omega
      refine ⟨.normal, ⟨5, [(0, .optr 0 0), (2, int64 i0), (3, .optr 5 0), (4, int64 ((j + 1 : Nat)))], [.rich (bookB 3 (.osl 1 0 3 3 none)), .rich [.osl 2 0 2 n (some (n + 1)), nilB, int64 1, .osl 3 0 2 m (some m), nilB, int64 2, .osl 4 0 2 m (some m), nilB, int64 3], .flat (tVal.row (v2)) m2, .flat (tVal.row (v3)) m3, .flat (tVal.row (marks i (j + 1) vs)) m4, .rich [.osl 4 0 2 m (some m), nilB, int64 i]]⟩, ?_, .inl ⟨rfl, c - 1, by omega, j + 1, by omega, ?_⟩⟩
      · simp -implicitDefEqProofs [x34L1, hlt, hm, hset, hrl, hfit, e1, bookB, nilB]
      · simp -implicitDefEqProofs [bookB, nilB]
    · have : j = m := by omega
      subst this
      refine ⟨.exit 2, _, ?_, .inr ⟨by simp, rfl, rfl⟩⟩
      simp -implicitDefEqProofs [x34L1]) m s ⟨0, by simp, by rw [hst, marks_zero]; rfl⟩
  exact h2

set_option maxHeartbeats 1000000 in
theorem fillA0_item (h : code 420 = some x420) (n m : Nat) (m2 m3 m4 : Bool) (v2 v3 v4 : List Val) (hv2 : v2.length = n + 1) (hv3 : v3.length = m) (hv4 : v4.length = m) (hn : n ≤ 20000) (hm : m ≤ 20000) :
    den code ext x34L2 ⟨5, [(0, .optr 0 0), (2, int64 0)], [.rich (bookB 3 (.osl 1 0 3 3 none)), .rich [.osl 2 0 2 n (some (n + 1)), nilB, int64 1, .osl 3 0 2 m (some m), nilB, int64 2, .osl 4 0 2 m (some m), nilB, int64 3], .flat (tVal.row (v2)) m2, .flat (tVal.row (v3)) m3, .flat (tVal.row (v4)) m4]⟩ = some (.normal, ⟨5, [(0, .optr 0 0), (2, int64 1)], [.rich (bookB 3 (.osl 1 0 3 3 none)), .rich [.osl 2 0 2 n (some (n + 1)), nilB, int64 1, .osl 3 0 2 m (some m), nilB, int64 2, .osl 4 0 2 m (some m), nilB, int64 3], .flat (tVal.row (marks 1 n v2)) m2, .flat (tVal.row (v3)) m3, .flat (tVal.row (v4)) m4, .rich [.osl 2 0 2 n (some (n + 1)), nilB, int64 1]]⟩) := by
  have e1 : IntKind.wrap .i64 1 = 1 := by decide
  simp -implicitDefEqProofs [x34L2, e1, bookB, nilB]
  rw [fillA0_loop h n m m2 m3 m4 (v2) (v3) (v4) (v2) 0 1 (by omega) (by omega) (by omega) (by omega) (by simp -implicitDefEqProofs [bookB, nilB])]
  simp -implicitDefEqProofs [e1, bookB, nilB]

set_option maxHeartbeats 1000000 in
theorem fillA1_item (h : code 420 = some x420) (n m : Nat) (m2 m3 m4 : Bool) (v2 v3 v4 : List Val) (hv2 : v2.length = n + 1) (hv3 : v3.length = m) (hv4 : v4.length = m) (hn : n ≤ 20000) (hm : m ≤ 20000) :
    den code ext x34L2 ⟨5, [(0, .optr 0 0), (2, int64 1)], [.rich (bookB 3 (.osl 1 0 3 3 none)), .rich [.osl 2 0 2 n (some (n + 1)), nilB, int64 1, .osl 3 0 2 m (some m), nilB, int64 2, .osl 4 0 2 m (some m), nilB, int64 3], .flat (tVal.row (marks 1 n v2)) m2, .flat (tVal.row (v3)) m3, .flat (tVal.row (v4)) m4]⟩ = some (.normal, ⟨5, [(0, .optr 0 0), (2, int64 2)], [.rich (bookB 3 (.osl 1 0 3 3 none)), .rich [.osl 2 0 2 n (some (n + 1)), nilB, int64 1, .osl 3 0 2 m (some m), nilB, int64 2, .osl 4 0 2 m (some m), nilB, int64 3], .flat (tVal.row (marks 1 n v2)) m2, .flat (tVal.row (marks 2 m v3)) m3, .flat (tVal.row (v4)) m4, .rich [.osl 3 0 2 m (some m), nilB, int64 2]]⟩) := by
  have e1 : IntKind.wrap .i64 2 = 2 := by decide
  simp -implicitDefEqProofs [x34L2, e1, bookB, nilB]
  rw [fillA1_loop h n m m2 m3 m4 (marks 1 n v2) (v3) (v4) (v3) 1 2 (by omega) (by omega) (by omega) (by omega) (by simp -implicitDefEqProofs [bookB, nilB])]
  simp -implicitDefEqProofs [e1, bookB, nilB]

set_option maxHeartbeats 1000000 in
theorem fillA2_item (h : code 420 = some x420) (n m : Nat) (m2 m3 m4 : Bool) (v2 v3 v4 : List Val) (hv2 : v2.length = n + 1) (hv3 : v3.length = m) (hv4 : v4.length = m) (hn : n ≤ 20000) (hm : m ≤ 20000) :
    den code ext x34L2 ⟨5, [(0, .optr 0 0), (2, int64 2)], [.rich (bookB 3 (.osl 1 0 3 3 none)), .rich [.osl 2 0 2 n (some (n + 1)), nilB, int64 1, .osl 3 0 2 m (some m), nilB, int64 2, .osl 4 0 2 m (some m), nilB, int64 3], .flat (tVal.row (marks 1 n v2)) m2, .flat (tVal.row (marks 2 m v3)) m3, .flat (tVal.row (v4)) m4]⟩ = some (.normal, ⟨5, [(0, .optr 0 0), (2, int64 3)], [.rich (bookB 3 (.osl 1 0 3 3 none)), .rich [.osl 2 0 2 n (some (n + 1)), nilB, int64 1, .osl 3 0 2 m (some m), nilB, int64 2, .osl 4 0 2 m (some m), nilB, int64 3], .flat (tVal.row (marks 1 n v2)) m2, .flat (tVal.row (marks 2 m v3)) m3, .flat (tVal.row (marks 3 m v4)) m4, .rich [.osl 4 0 2 m (some m), nilB, int64 3]]⟩) := by
  have e1 : IntKind.wrap .i64 3 = 3 := by decide
  simp -implicitDefEqProofs [x34L2, e1, bookB, nilB]
  rw [fillA2_loop h n m m2 m3 m4 (marks 1 n v2) (marks 2 m v3) (v4) (v4) 2 3 (by omega) (by omega) (by omega) (by omega) (by simp -implicitDefEqProofs [bookB, nilB])]
  simp -implicitDefEqProofs [e1, bookB, nilB]

set_option maxHeartbeats 1000000 in
theorem fillA_spec (h : code 420 = some x420) (h34 : code 34 = some x34) (n m : Nat) (m2 m3 m4 : Bool) (v2 v3 v4 : List Val) (hv2 : v2.length = n + 1) (hv3 : v3.length = m) (hv4 : v4.length = m) (hn : n ≤ 20000) (hm : m ≤ 20000) :
    callW code ext 34 [.optr 0 0] [.rich (bookB 3 (.osl 1 0 3 3 none)), .rich [.osl 2 0 2 n (some (n + 1)), nilB, int64 1, .osl 3 0 2 m (some m), nilB, int64 2, .osl 4 0 2 m (some m), nilB, int64 3], .flat (tVal.row (v2)) m2, .flat (tVal.row (v3)) m3, .flat (tVal.row (v4)) m4] = some (.tup [], [.rich (bookB 3 (.osl 1 0 3 3 none)), .rich [.osl 2 0 2 n (some (n + 1)), nilB, int64 1, .osl 3 0 2 m (some m), nilB, int64 2, .osl 4 0 2 m (some m), nilB, int64 3], .flat (tVal.row (marks 1 n v2)) m2, .flat (tVal.row (marks 2 m v3)) m3, .flat (tVal.row (marks 3 m v4)) m4]) := by
  have i0 := fillA0_item (ext := ext) h n m m2 m3 m4 v2 v3 v4 hv2 hv3 hv4 hn hm
  have i1 := fillA1_item (ext := ext) h n m m2 m3 m4 v2 v3 v4 hv2 hv3 hv4 hn hm
  have i2 := fillA2_item (ext := ext) h n m m2 m3 m4 v2 v3 v4 hv2 hv3 hv4 hn hm
  have i3 : ∀ M : Mem, M = [.rich (bookB 3 (.osl 1 0 3 3 none)), .rich [.osl 2 0 2 n (some (n + 1)), nilB, int64 1, .osl 3 0 2 m (some m), nilB, int64 2, .osl 4 0 2 m (some m), nilB, int64 3], .flat (tVal.row (marks 1 n v2)) m2, .flat (tVal.row (marks 2 m v3)) m3, .flat (tVal.row (marks 3 m v4)) m4] → ∃ e, den code ext x34L2 ⟨5, [(0, .optr 0 0), (2, int64 3)], M⟩ = some (.exit 0, ⟨5, e, M⟩) := by
    rintro M rfl
    exact ⟨[(0, .optr 0 0), (2, int64 3), (11, avb false)], by simp -implicitDefEqProofs [x34L2, bookB, nilB]⟩
  obtain ⟨e, i3⟩ := i3 _ rfl
  rw [callW_fun code ext h34]
  simp only [bookB, nilB] at i0 i1 i2 i3
  simp -implicitDefEqProofs [x34, den_loop, i0, i1, i2, i3, bookB, nilB]

set_option maxHeartbeats 1000000 in
theorem fillN0_loop (h : code 420 = some x420) (n : Nat) (m2 : Bool) (v2 vs : List Val) (i0 i : Int) (h0 : 0 ≤ i) (h1 : i ≤ 1000) (hlen : n ≤ vs.length) (hl : n ≤ 140737488355328) {s : St}
    (hst : s.tidy [0, 2, 3, 4] = ⟨3, [(0, .optr 0 0), (2, int64 i0), (3, .optr 3 0), (4, int64 0)], [.rich (bookB 3 (.osl 1 0 3 3 none)), .rich [.osl 2 0 2 n (some (n + 1)), nilB, int64 1, nilB, nilB, int64 2, nilB, nilB, int64 3], .flat (tVal.row (vs)) m2, .rich [.osl 2 0 2 n (some (n + 1)), nilB, int64 i]]⟩) :
    den code ext (.loop [0, 2, 3, 4] x34L1) s = some (.exit 2, ⟨3, [(0, .optr 0 0), (2, int64 i0), (3, .optr 3 0), (4, int64 (n : Nat)), (25, avb false)], [.rich (bookB 3 (.osl 1 0 3 3 none)), .rich [.osl 2 0 2 n (some (n + 1)), nilB, int64 1, nilB, nilB, int64 2, nilB, nilB, int64 3], .flat (tVal.row (marks i n vs)) m2, .rich [.osl 2 0 2 n (some (n + 1)), nilB, int64 i]]⟩) := by
  obtain ⟨e, s', h2, _, rfl, rfl⟩ := loop_rule (code := code) (ext := ext) (keep := [0, 2, 3, 4]) (b := x34L1) (fun c s => ∃ j, j + c = n ∧ s.tidy [0, 2, 3, 4] = ⟨3, [(0, .optr 0 0), (2, int64 i0), (3, .optr 3 0), (4, int64 (j : Nat))], [.rich (bookB 3 (.osl 1 0 3 3 none)), .rich [.osl 2 0 2 n (some (n + 1)), nilB, int64 1, nilB, nilB, int64 2, nilB, nilB, int64 3], .flat (tVal.row (marks i j vs)) m2, .rich [.osl 2 0 2 n (some (n + 1)), nilB, int64 i]]⟩)
    (fun e s' => e = .exit 2 ∧ s' = ⟨3, [(0, .optr 0 0), (2, int64 i0), (3, .optr 3 0), (4, int64 (n : Nat)), (25, avb false)], [.rich (bookB 3 (.osl 1 0 3 3 none)), .rich [.osl 2 0 2 n (some (n + 1)), nilB, int64 1, nilB, nilB, int64 2, nilB, nilB, int64 3], .flat (tVal.row (marks i n vs)) m2, .rich [.osl 2 0 2 n (some (n + 1)), nilB, int64 i]]⟩) (fun c s => by
    rintro ⟨j, hj, hst⟩
    rw [hst]
    by_cases hlt : j < n
    · have hm := mark_spec (ext := ext) h i h0 h1
      have e1 : IntKind.wrap .i64 ((j : Int) + 1) = (j : Int) + 1 := wrapI64 (by omega) (by omega)
      have hset := marks_row i (j := j) (vs := vs) (by omega)
      have hrl := marks_rowlen i (j := j) (vs := vs) (by omega)
      have hfit : j * 2 + 2 ≤ vs.length * 2 := by omega
      refine ⟨.normal, ⟨3, [(0, .optr 0 0), (2, int64 i0), (3, .optr 3 0), (4, int64 ((j + 1 : Nat)))], [.rich (bookB 3 (.osl 1 0 3 3 none)), .rich [.osl 2 0 2 n (some (n + 1)), nilB, int64 1, nilB, nilB, int64 2, nilB, nilB, int64 3], .flat (tVal.row (marks i (j + 1) vs)) m2, .rich [.osl 2 0 2 n (some (n + 1)), nilB, int64 i]]⟩, ?_, .inl ⟨rfl, c - 1, by omega, j + 1, by omega, ?_⟩⟩
      · simp -implicitDefEqProofs [x34L1, hlt, hm, hset, hrl, hfit, e1, bookB, nilB]
      · simp -implicitDefEqProofs [bookB, nilB]
    · have : j = n := by omega
      subst this
      refine ⟨.exit 2, _, ?_, .inr ⟨by simp, rfl, rfl⟩⟩
      simp -implicitDefEqProofs [x34L1]) n s ⟨0, by simp, by rw [hst, marks_zero]; rfl⟩
  exact h2

set_option maxHeartbeats 1000000 in
theorem fillN0_item (h : code 420 = some x420) (n : Nat) (m2 : Bool) (v2 : List Val) (hv2 : v2.length = n + 1) (hn : n ≤ 20000) :
    den code ext x34L2 ⟨3, [(0, .optr 0 0), (2, int64 0)], [.rich (bookB 3 (.osl 1 0 3 3 none)), .rich [.osl 2 0 2 n (some (n + 1)), nilB, int64 1, nilB, nilB, int64 2, nilB, nilB, int64 3], .flat (tVal.row (v2)) m2]⟩ = some (.normal, ⟨3, [(0, .optr 0 0), (2, int64 1)], [.rich (bookB 3 (.osl 1 0 3 3 none)), .rich [.osl 2 0 2 n (some (n + 1)), nilB, int64 1, nilB, nilB, int64 2, nilB, nilB, int64 3], .flat (tVal.row (marks 1 n v2)) m2, .rich [.osl 2 0 2 n (some (n + 1)), nilB, int64 1]]⟩) := by
  have e1 : IntKind.wrap .i64 1 = 1 := by decide
  simp -implicitDefEqProofs [x34L2, e1, bookB, nilB]
  rw [fillN0_loop h n m2 (v2) (v2) 0 1 (by omega) (by omega) (by omega) (by omega) (by simp -implicitDefEqProofs [bookB, nilB])]
  simp -implicitDefEqProofs [e1, bookB, nilB]

set_option maxHeartbeats 1000000 in
theorem fillN1_item (h : code 420 = some x420) (n : Nat) (m2 : Bool) (v2 : List Val) (hv2 : v2.length = n + 1) (hn : n ≤ 20000) :
    den code ext x34L2 ⟨3, [(0, .optr 0 0), (2, int64 1)], [.rich (bookB 3 (.osl 1 0 3 3 none)), .rich [.osl 2 0 2 n (some (n + 1)), nilB, int64 1, nilB, nilB, int64 2, nilB, nilB, int64 3], .flat (tVal.row (marks 1 n v2)) m2]⟩ = some (.normal, ⟨3, [(0, .optr 0 0), (2, int64 2)], [.rich (bookB 3 (.osl 1 0 3 3 none)), .rich [.osl 2 0 2 n (some (n + 1)), nilB, int64 1, nilB, nilB, int64 2, nilB, nilB, int64 3], .flat (tVal.row (marks 1 n v2)) m2, .rich [nilB, nilB, int64 2]]⟩) := by
  have e1 : IntKind.wrap .i64 2 = 2 := by decide
  simp -implicitDefEqProofs [x34L2, x34L1, den_loop, e1, bookB, nilB]

set_option maxHeartbeats 1000000 in
theorem fillN2_item (h : code 420 = some x420) (n : Nat) (m2 : Bool) (v2 : List Val) (hv2 : v2.length = n + 1) (hn : n ≤ 20000) :
    den code ext x34L2 ⟨3, [(0, .optr 0 0), (2, int64 2)], [.rich (bookB 3 (.osl 1 0 3 3 none)), .rich [.osl 2 0 2 n (some (n + 1)), nilB, int64 1, nilB, nilB, int64 2, nilB, nilB, int64 3], .flat (tVal.row (marks 1 n v2)) m2]⟩ = some (.normal, ⟨3, [(0, .optr 0 0), (2, int64 3)], [.rich (bookB 3 (.osl 1 0 3 3 none)), .rich [.osl 2 0 2 n (some (n + 1)), nilB, int64 1, nilB, nilB, int64 2, nilB, nilB, int64 3], .flat (tVal.row (marks 1 n v2)) m2, .rich [nilB, nilB, int64 3]]⟩) := by
  have e1 : IntKind.wrap .i64 3 = 3 := by decide
  simp -implicitDefEqProofs [x34L2, x34L1, den_loop, e1, bookB, nilB]

set_option maxHeartbeats 1000000 in
theorem fillN_spec (h : code 420 = some x420) (h34 : code 34 = some x34) (n : Nat) (m2 : Bool) (v2 : List Val) (hv2 : v2.length = n + 1) (hn : n ≤ 20000) :
    callW code ext 34 [.optr 0 0] [.rich (bookB 3 (.osl 1 0 3 3 none)), .rich [.osl 2 0 2 n (some (n + 1)), nilB, int64 1, nilB, nilB, int64 2, nilB, nilB, int64 3], .flat (tVal.row (v2)) m2] = some (.tup [], [.rich (bookB 3 (.osl 1 0 3 3 none)), .rich [.osl 2 0 2 n (some (n + 1)), nilB, int64 1, nilB, nilB, int64 2, nilB, nilB, int64 3], .flat (tVal.row (marks 1 n v2)) m2]) := by
  have i0 := fillN0_item (ext := ext) h n m2 v2 hv2 hn
  have i1 := fillN1_item (ext := ext) h n m2 v2 hv2 hn
  have i2 := fillN2_item (ext := ext) h n m2 v2 hv2 hn
  have i3 : ∀ M : Mem, M = [.rich (bookB 3 (.osl 1 0 3 3 none)), .rich [.osl 2 0 2 n (some (n + 1)), nilB, int64 1, nilB, nilB, int64 2, nilB, nilB, int64 3], .flat (tVal.row (marks 1 n v2)) m2] → ∃ e, den code ext x34L2 ⟨3, [(0, .optr 0 0), (2, int64 3)], M⟩ = some (.exit 0, ⟨3, e, M⟩) := by
    rintro M rfl
    exact ⟨[(0, .optr 0 0), (2, int64 3), (11, avb false)], by simp -implicitDefEqProofs [x34L2, bookB, nilB]⟩
  obtain ⟨e, i3⟩ := i3 _ rfl
  rw [callW_fun code ext h34]
  simp only [bookB, nilB] at i0 i1 i2 i3
  simp -implicitDefEqProofs [x34, den_loop, i0, i1, i2, i3, bookB, nilB]


end
end Go.EX
