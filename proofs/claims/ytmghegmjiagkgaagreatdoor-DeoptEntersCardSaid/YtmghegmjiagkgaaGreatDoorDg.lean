/-
  EX: a Book with three lists of values: its growth. Written by a program (genvals.py).
-/
import Derived.Test.YtmghegmjiagkgaaGreatDoorDf
set_option linter.unusedVariables false
set_option linter.unusedSimpArgs false
namespace Go.EX
section
variable {code : Nat → Option XFun} {ext : Calls'}

theorem marks_full (i : Int) {j : Nat} {vs : List Val} (h : vs.length = j) : marks i j vs = List.replicate j (markV i) := by
  subst h; simp [marks]

theorem rep_cut (i : Int) (n : Nat) : cut (tVal.row (List.replicate n (markV i))) 0 (n * 2) = some (tVal.row (List.replicate n (markV i))) := by
  have := cut_row tVal (List.replicate n (markV i))
  rw [List.length_replicate] at this
  exact this

theorem rep_snoc (i : Int) (n : Nat) : tVal.row (List.replicate n (markV i)) ++ [.val (.int .u8 0), .val (.int .i64 (-1000 - i))] = tVal.row (List.replicate (n + 1) (markV i)) := by
  rw [List.replicate_succ', ← row_snoc]
  rfl

theorem rep_one (i : Int) : [IV.val (.int .u8 0), .val (.int .i64 (-1000 - i))] = tVal.row (List.replicate 1 (markV i)) := rfl

set_option maxHeartbeats 2000000 in
theorem growA0_long (h : code 420 = some x420) (n m : Nat) (m2 m3 m4 : Bool) (v2 v3 v4 : List Val) (b j0 : Nat) (mv0 : Bool) (hj0 : j0 < 40) (hb : b ≤ 20000) {s : St}
    (hst : s.tidy [0, 2, 3, 4, 5] = ⟨5, [(0, .optr 0 0), (2, int64 0), (3, .optr 5 0), (4, .osl 6 0 2 (b + j0) none), (5, int64 (j0 : Nat))], [.rich (bookB 3 (.osl 1 0 3 3 none)), .rich [.osl 2 0 2 n (some (n + 1)), nilB, int64 1, .osl 3 0 2 m (some m), nilB, int64 2, .osl 4 0 2 m (some m), nilB, int64 3], .flat (tVal.row (v2)) m2, .flat (tVal.row (v3)) m3, .flat (tVal.row (v4)) m4, .rich [.osl 2 0 2 n (some (n + 1)), nilB, int64 1], .flat (tVal.row (List.replicate (b + j0) (markV 1))) mv0]⟩) :
    den code ext (.loop [0, 2, 3, 4, 5] x54L1) s = some (.exit 2, ⟨5, [(0, .optr 0 0), (2, int64 0), (3, .optr 5 0), (4, .osl 6 0 2 (b + 40) none), (5, int64 40), (25, avb false)], [.rich (bookB 3 (.osl 1 0 3 3 none)), .rich [.osl 2 0 2 n (some (n + 1)), nilB, int64 1, .osl 3 0 2 m (some m), nilB, int64 2, .osl 4 0 2 m (some m), nilB, int64 3], .flat (tVal.row (v2)) m2, .flat (tVal.row (v3)) m3, .flat (tVal.row (v4)) m4, .rich [.osl 2 0 2 n (some (n + 1)), nilB, int64 1], .flat (tVal.row (List.replicate (b + 40) (markV 1))) true]⟩) := by
  obtain ⟨e, s', h2, _, rfl, rfl⟩ := loop_rule (code := code) (ext := ext) (keep := [0, 2, 3, 4, 5]) (b := x54L1) (fun c s => ∃ j mv, j + c = 40 ∧ (c = 0 → mv = true) ∧ s.tidy [0, 2, 3, 4, 5] = ⟨5, [(0, .optr 0 0), (2, int64 0), (3, .optr 5 0), (4, .osl 6 0 2 (b + j) none), (5, int64 (j : Nat))], [.rich (bookB 3 (.osl 1 0 3 3 none)), .rich [.osl 2 0 2 n (some (n + 1)), nilB, int64 1, .osl 3 0 2 m (some m), nilB, int64 2, .osl 4 0 2 m (some m), nilB, int64 3], .flat (tVal.row (v2)) m2, .flat (tVal.row (v3)) m3, .flat (tVal.row (v4)) m4, .rich [.osl 2 0 2 n (some (n + 1)), nilB, int64 1], .flat (tVal.row (List.replicate (b + j) (markV 1))) mv]⟩)
    (fun e s' => e = .exit 2 ∧ s' = ⟨5, [(0, .optr 0 0), (2, int64 0), (3, .optr 5 0), (4, .osl 6 0 2 (b + 40) none), (5, int64 40), (25, avb false)], [.rich (bookB 3 (.osl 1 0 3 3 none)), .rich [.osl 2 0 2 n (some (n + 1)), nilB, int64 1, .osl 3 0 2 m (some m), nilB, int64 2, .osl 4 0 2 m (some m), nilB, int64 3], .flat (tVal.row (v2)) m2, .flat (tVal.row (v3)) m3, .flat (tVal.row (v4)) m4, .rich [.osl 2 0 2 n (some (n + 1)), nilB, int64 1], .flat (tVal.row (List.replicate (b + 40) (markV 1))) true]⟩) (fun c s => by
    rintro ⟨j, mv, hj, hmv, hst⟩
    rw [hst]
    by_cases hlt : j < 40
    · have hm := mark_spec (ext := ext) h 1 (by omega) (by omega)
      have e1 : IntKind.wrap .i64 ((j : Int) + 1) = (j : Int) + 1 := wrapI64 (by omega) (by omega)
      have hcut := rep_cut 1 (b + j)
      have hsn : tVal.row (List.replicate (b + j) (markV 1)) ++ [IV.val (.int .u8 0), .val (.int .i64 (-1001))] = tVal.row (List.replicate (b + j + 1) (markV 1)) := rep_snoc 1 (b + j)
      have hbd : (b + j + 1) * 16 ≤ 140737488355328 := by omega
      have hlt' : (j : Int) < 40 := by omega
      refine ⟨.normal, ⟨5, [(0, .optr 0 0), (2, int64 0), (3, .optr 5 0), (4, .osl 6 0 2 (b + j + 1) none), (5, int64 ((j : Int) + 1))], [.rich (bookB 3 (.osl 1 0 3 3 none)), .rich [.osl 2 0 2 n (some (n + 1)), nilB, int64 1, .osl 3 0 2 m (some m), nilB, int64 2, .osl 4 0 2 m (some m), nilB, int64 3], .flat (tVal.row (v2)) m2, .flat (tVal.row (v3)) m3, .flat (tVal.row (v4)) m4, .rich [.osl 2 0 2 n (some (n + 1)), nilB, int64 1], .flat (tVal.row (List.replicate (b + j + 1) (markV 1))) true, .flat [.val (.int .u8 0), .val (.int .i64 (-1001))] false]⟩, ?_, .inl ⟨rfl, c - 1, by omega, j + 1, true, by omega, fun _ => rfl, ?_⟩⟩
      · simp -implicitDefEqProofs [x54L1, hlt', hm, hcut, hsn, hbd, e1, bookB, nilB, exAppendX, exAppend, elems]
      · simp -implicitDefEqProofs [bookB, nilB, Nat.add_assoc]
    · have : j = 40 := by omega
      subst this
      have : c = 0 := by omega
      subst this
      obtain rfl := hmv rfl
      refine ⟨.exit 2, _, ?_, .inr ⟨by simp, rfl, rfl⟩⟩
      simp -implicitDefEqProofs [x54L1]) (40 - j0) s ⟨j0, mv0, by omega, by omega, hst⟩
  exact h2

set_option maxHeartbeats 2000000 in
theorem growA0_s0 (h : code 420 = some x420) (n m : Nat) (m2 m3 m4 : Bool) (v2 v3 v4 : List Val) (hn : n ≤ 20000) (hm : m ≤ 20000) (hv2 : v2.length = n + 1) :
    den code ext x54L1 ⟨5, [(0, .optr 0 0), (2, int64 0), (3, .optr 5 0), (4, .osl 2 0 2 n (some (n + 1))), (5, int64 0)], [.rich (bookB 3 (.osl 1 0 3 3 none)), .rich [.osl 2 0 2 n (some (n + 1)), nilB, int64 1, .osl 3 0 2 m (some m), nilB, int64 2, .osl 4 0 2 m (some m), nilB, int64 3], .flat (tVal.row (marks 1 n v2)) m2, .flat (tVal.row (v3)) m3, .flat (tVal.row (v4)) m4, .rich [.osl 2 0 2 n (some (n + 1)), nilB, int64 1]]⟩ = some (.normal, ⟨5, [(0, .optr 0 0), (2, int64 0), (3, .optr 5 0), (4, .osl 2 0 2 (n + 1) (some (n + 1))), (5, int64 1)], [.rich (bookB 3 (.osl 1 0 3 3 none)), .rich [.osl 2 0 2 n (some (n + 1)), nilB, int64 1, .osl 3 0 2 m (some m), nilB, int64 2, .osl 4 0 2 m (some m), nilB, int64 3], .flat (tVal.row (List.replicate (n + 1) (markV 1))) m2, .flat (tVal.row (v3)) m3, .flat (tVal.row (v4)) m4, .rich [.osl 2 0 2 n (some (n + 1)), nilB, int64 1], .flat [.val (.int .u8 0), .val (.int .i64 (-1001))] false]⟩) := by
  have hm := mark_spec (ext := ext) h 1 (by omega) (by omega)
  have e1 : IntKind.wrap .i64 1 = 1 := by decide
  have hset : setAll (tVal.row (marks 1 n v2)) (n * 2) [IV.val (.int .u8 0), .val (.int .i64 (-1001))] = tVal.row (marks 1 (n + 1) v2) := marks_row 1 (j := n) (vs := v2) (by omega)
  rw [marks_full 1 hv2] at hset
  have hrl := marks_rowlen 1 (j := n) (vs := v2) (by omega)
  have hfit : (n + 1) * 2 ≤ v2.length * 2 := by omega
  simp -implicitDefEqProofs [x54L1, hm, hset, hrl, hfit, e1, bookB, nilB, exAppendX, exAppend, elems]

set_option maxHeartbeats 2000000 in
theorem growA0_s1 (h : code 420 = some x420) (n m : Nat) (m2 m3 m4 : Bool) (v2 v3 v4 : List Val) (hn : n ≤ 20000) (hm : m ≤ 20000) :
    den code ext x54L1 ⟨5, [(0, .optr 0 0), (2, int64 0), (3, .optr 5 0), (4, .osl 2 0 2 (n + 1) (some (n + 1))), (5, int64 1)], [.rich (bookB 3 (.osl 1 0 3 3 none)), .rich [.osl 2 0 2 n (some (n + 1)), nilB, int64 1, .osl 3 0 2 m (some m), nilB, int64 2, .osl 4 0 2 m (some m), nilB, int64 3], .flat (tVal.row (List.replicate (n + 1) (markV 1))) m2, .flat (tVal.row (v3)) m3, .flat (tVal.row (v4)) m4, .rich [.osl 2 0 2 n (some (n + 1)), nilB, int64 1]]⟩ = some (.normal, ⟨5, [(0, .optr 0 0), (2, int64 0), (3, .optr 5 0), (4, .osl 7 0 2 (n + 2) none), (5, int64 2)], [.rich (bookB 3 (.osl 1 0 3 3 none)), .rich [.osl 2 0 2 n (some (n + 1)), nilB, int64 1, .osl 3 0 2 m (some m), nilB, int64 2, .osl 4 0 2 m (some m), nilB, int64 3], .flat (tVal.row (List.replicate (n + 1) (markV 1))) m2, .flat (tVal.row (v3)) m3, .flat (tVal.row (v4)) m4, .rich [.osl 2 0 2 n (some (n + 1)), nilB, int64 1], .flat [.val (.int .u8 0), .val (.int .i64 (-1001))] false, .flat (tVal.row (List.replicate (n + 2) (markV 1))) false]⟩) := by
  have hm := mark_spec (ext := ext) h 1 (by omega) (by omega)
  have e1 : IntKind.wrap .i64 2 = 2 := by decide
  have hcut := rep_cut 1 (n + 1)
  have hsn : tVal.row (List.replicate (n + 1) (markV 1)) ++ [IV.val (.int .u8 0), .val (.int .i64 (-1001))] = tVal.row (List.replicate (n + 1 + 1) (markV 1)) := rep_snoc 1 (n + 1)
  have hbd : (n + 1 + 1) * 16 ≤ 140737488355328 := by omega
  have hno : (n + 1 ≤ n) = False := eq_false (by omega)
  simp -implicitDefEqProofs [x54L1, hm, hcut, hsn, hbd, hno, e1, bookB, nilB, exAppendX, exAppend, elems]

set_option maxHeartbeats 2000000 in
theorem growA0_inner (h : code 420 = some x420) (n m : Nat) (m2 m3 m4 : Bool) (v2 v3 v4 : List Val) (hn : n ≤ 20000) (hm : m ≤ 20000) (hv2 : v2.length = n + 1) {s : St} (hst : s.tidy [0, 2, 3, 4, 5] = ⟨5, [(0, .optr 0 0), (2, int64 0), (3, .optr 5 0), (4, .osl 2 0 2 n (some (n + 1))), (5, int64 0)], [.rich (bookB 3 (.osl 1 0 3 3 none)), .rich [.osl 2 0 2 n (some (n + 1)), nilB, int64 1, .osl 3 0 2 m (some m), nilB, int64 2, .osl 4 0 2 m (some m), nilB, int64 3], .flat (tVal.row (marks 1 n v2)) m2, .flat (tVal.row (v3)) m3, .flat (tVal.row (v4)) m4, .rich [.osl 2 0 2 n (some (n + 1)), nilB, int64 1]]⟩) :
    den code ext (.loop [0, 2, 3, 4, 5] x54L1) s = some (.exit 2, ⟨5, [(0, .optr 0 0), (2, int64 0), (3, .optr 5 0), (4, .osl 6 0 2 (n + 40) none), (5, int64 40), (25, avb false)], [.rich (bookB 3 (.osl 1 0 3 3 none)), .rich [.osl 2 0 2 n (some (n + 1)), nilB, int64 1, .osl 3 0 2 m (some m), nilB, int64 2, .osl 4 0 2 m (some m), nilB, int64 3], .flat (tVal.row (List.replicate (n + 1) (markV 1))) m2, .flat (tVal.row (v3)) m3, .flat (tVal.row (v4)) m4, .rich [.osl 2 0 2 n (some (n + 1)), nilB, int64 1], .flat (tVal.row (List.replicate (n + 40) (markV 1))) true]⟩) := by
  rw [den_loop, hst, growA0_s0 h n m m2 m3 m4 v2 v3 v4 hn hm hv2]
  simp only [andThen]
  rw [den_loop, show (St.mk 5 _ _).tidy [0, 2, 3, 4, 5] = ⟨5, [(0, .optr 0 0), (2, int64 0), (3, .optr 5 0), (4, .osl 2 0 2 (n + 1) (some (n + 1))), (5, int64 1)], [.rich (bookB 3 (.osl 1 0 3 3 none)), .rich [.osl 2 0 2 n (some (n + 1)), nilB, int64 1, .osl 3 0 2 m (some m), nilB, int64 2, .osl 4 0 2 m (some m), nilB, int64 3], .flat (tVal.row (List.replicate (n + 1) (markV 1))) m2, .flat (tVal.row (v3)) m3, .flat (tVal.row (v4)) m4, .rich [.osl 2 0 2 n (some (n + 1)), nilB, int64 1]]⟩ by simp -implicitDefEqProofs [bookB, nilB], growA0_s1 h n m m2 m3 m4 v2 v3 v4 hn hm]
  simp only [andThen]
  exact growA0_long h n m m2 m3 m4 (List.replicate (n + 1) (markV 1)) v3 v4 n 2 false (by omega) hn (by simp -implicitDefEqProofs [bookB, nilB])

set_option maxHeartbeats 2000000 in
theorem growA0_item (h : code 420 = some x420) (n m : Nat) (m2 m3 m4 : Bool) (v2 : List Val) (hn : n ≤ 20000) (hm : m ≤ 20000) (hv2 : v2.length = n + 1) :
    ∃ s', den code ext x54L2 ⟨5, [(0, .optr 0 0), (2, int64 0)], [.rich (bookB 3 (.osl 1 0 3 3 none)), .rich [.osl 2 0 2 n (some (n + 1)), nilB, int64 1, .osl 3 0 2 m (some m), nilB, int64 2, .osl 4 0 2 m (some m), nilB, int64 3], .flat (tVal.row (marks 1 n v2)) m2, .flat (tVal.row (List.replicate (m) (markV 2))) m3, .flat (tVal.row (List.replicate (m) (markV 3))) m4]⟩ = some (.normal, s') ∧ s'.tidy [0, 2] = ⟨5, [(0, .optr 0 0), (2, int64 1)], [.rich (bookB 3 (.osl 1 0 3 3 none)), .rich [.osl 2 0 2 n (some (n + 1)), .osl 5 0 2 (n + 40) none, int64 1, .osl 3 0 2 m (some m), nilB, int64 2, .osl 4 0 2 m (some m), nilB, int64 3], .flat (tVal.row (List.replicate (n + 1) (markV 1))) m2, .flat (tVal.row (List.replicate (m) (markV 2))) m3, .flat (tVal.row (List.replicate (m) (markV 3))) m4, .flat (tVal.row (List.replicate (n + 40) (markV 1))) true]⟩ := by
  have e1 : IntKind.wrap .i64 1 = 1 := by decide
  refine ⟨⟨5, [(0, .optr 0 0), (2, int64 1)], [.rich (bookB 3 (.osl 1 0 3 3 none)), .rich [.osl 2 0 2 n (some (n + 1)), .osl 6 0 2 (n + 40) none, int64 1, .osl 3 0 2 m (some m), nilB, int64 2, .osl 4 0 2 m (some m), nilB, int64 3], .flat (tVal.row (List.replicate (n + 1) (markV 1))) m2, .flat (tVal.row (List.replicate (m) (markV 2))) m3, .flat (tVal.row (List.replicate (m) (markV 3))) m4, .rich [.osl 2 0 2 n (some (n + 1)), nilB, int64 1], .flat (tVal.row (List.replicate (n + 40) (markV 1))) true]⟩, ?_, by simp -implicitDefEqProofs [bookB, nilB]⟩
  simp -implicitDefEqProofs [x54L2, e1, bookB, nilB]
  rw [growA0_inner h n m m2 m3 m4 (v2) (List.replicate (m) (markV 2)) (List.replicate (m) (markV 3))  hn hm hv2 (by simp -implicitDefEqProofs [bookB, nilB])]
  simp -implicitDefEqProofs [e1, bookB, nilB]

set_option maxHeartbeats 2000000 in
theorem growA1_long (h : code 420 = some x420) (n m : Nat) (m2 m3 m4 : Bool) (v2 v3 v4 : List Val) (q0 : Nat) (w0 : List IV) (b j0 : Nat) (mv0 : Bool) (hj0 : j0 < 40) (hb : b ≤ 20000) {s : St}
    (hst : s.tidy [0, 2, 3, 4, 5] = ⟨5, [(0, .optr 0 0), (2, int64 1), (3, .optr 5 0), (4, .osl 6 0 2 (b + j0) none), (5, int64 (j0 : Nat))], [.rich (bookB 3 (.osl 1 0 3 3 none)), .rich [.osl 2 0 2 n (some (n + 1)), .osl 7 0 2 q0 none, int64 1, .osl 3 0 2 m (some m), nilB, int64 2, .osl 4 0 2 m (some m), nilB, int64 3], .flat (tVal.row (v2)) m2, .flat (tVal.row (v3)) m3, .flat (tVal.row (v4)) m4, .rich [.osl 3 0 2 m (some m), nilB, int64 2], .flat (tVal.row (List.replicate (b + j0) (markV 2))) mv0, .flat w0 true]⟩) :
    den code ext (.loop [0, 2, 3, 4, 5] x54L1) s = some (.exit 2, ⟨5, [(0, .optr 0 0), (2, int64 1), (3, .optr 5 0), (4, .osl 6 0 2 (b + 40) none), (5, int64 40), (25, avb false)], [.rich (bookB 3 (.osl 1 0 3 3 none)), .rich [.osl 2 0 2 n (some (n + 1)), .osl 7 0 2 q0 none, int64 1, .osl 3 0 2 m (some m), nilB, int64 2, .osl 4 0 2 m (some m), nilB, int64 3], .flat (tVal.row (v2)) m2, .flat (tVal.row (v3)) m3, .flat (tVal.row (v4)) m4, .rich [.osl 3 0 2 m (some m), nilB, int64 2], .flat (tVal.row (List.replicate (b + 40) (markV 2))) true, .flat w0 true]⟩) := by
  obtain ⟨e, s', h2, _, rfl, rfl⟩ := loop_rule (code := code) (ext := ext) (keep := [0, 2, 3, 4, 5]) (b := x54L1) (fun c s => ∃ j mv, j + c = 40 ∧ (c = 0 → mv = true) ∧ s.tidy [0, 2, 3, 4, 5] = ⟨5, [(0, .optr 0 0), (2, int64 1), (3, .optr 5 0), (4, .osl 6 0 2 (b + j) none), (5, int64 (j : Nat))], [.rich (bookB 3 (.osl 1 0 3 3 none)), .rich [.osl 2 0 2 n (some (n + 1)), .osl 7 0 2 q0 none, int64 1, .osl 3 0 2 m (some m), nilB, int64 2, .osl 4 0 2 m (some m), nilB, int64 3], .flat (tVal.row (v2)) m2, .flat (tVal.row (v3)) m3, .flat (tVal.row (v4)) m4, .rich [.osl 3 0 2 m (some m), nilB, int64 2], .flat (tVal.row (List.replicate (b + j) (markV 2))) mv, .flat w0 true]⟩)
    (fun e s' => e = .exit 2 ∧ s' = ⟨5, [(0, .optr 0 0), (2, int64 1), (3, .optr 5 0), (4, .osl 6 0 2 (b + 40) none), (5, int64 40), (25, avb false)], [.rich (bookB 3 (.osl 1 0 3 3 none)), .rich [.osl 2 0 2 n (some (n + 1)), .osl 7 0 2 q0 none, int64 1, .osl 3 0 2 m (some m), nilB, int64 2, .osl 4 0 2 m (some m), nilB, int64 3], .flat (tVal.row (v2)) m2, .flat (tVal.row (v3)) m3, .flat (tVal.row (v4)) m4, .rich [.osl 3 0 2 m (some m), nilB, int64 2], .flat (tVal.row (List.replicate (b + 40) (markV 2))) true, .flat w0 true]⟩) (fun c s => by
    rintro ⟨j, mv, hj, hmv, hst⟩
    rw [hst]
    by_cases hlt : j < 40
    · have hm := mark_spec (ext := ext) h 2 (by omega) (by omega)
      have e1 : IntKind.wrap .i64 ((j : Int) + 1) = (j : Int) + 1 := wrapI64 (by omega) (by omega)
      have hcut := rep_cut 2 (b + j)
      have hsn : tVal.row (List.replicate (b + j) (markV 2)) ++ [IV.val (.int .u8 0), .val (.int .i64 (-1002))] = tVal.row (List.replicate (b + j + 1) (markV 2)) := rep_snoc 2 (b + j)
      have hbd : (b + j + 1) * 16 ≤ 140737488355328 := by omega
      have hlt' : (j : Int) < 40 := by omega
      refine ⟨.normal, ⟨5, [(0, .optr 0 0), (2, int64 1), (3, .optr 5 0), (4, .osl 6 0 2 (b + j + 1) none), (5, int64 ((j : Int) + 1))], [.rich (bookB 3 (.osl 1 0 3 3 none)), .rich [.osl 2 0 2 n (some (n + 1)), .osl 7 0 2 q0 none, int64 1, .osl 3 0 2 m (some m), nilB, int64 2, .osl 4 0 2 m (some m), nilB, int64 3], .flat (tVal.row (v2)) m2, .flat (tVal.row (v3)) m3, .flat (tVal.row (v4)) m4, .rich [.osl 3 0 2 m (some m), nilB, int64 2], .flat (tVal.row (List.replicate (b + j + 1) (markV 2))) true, .flat w0 true, .flat [.val (.int .u8 0), .val (.int .i64 (-1002))] false]⟩, ?_, .inl ⟨rfl, c - 1, by omega, j + 1, true, by omega, fun _ => rfl, ?_⟩⟩
      · simp -implicitDefEqProofs [x54L1, hlt', hm, hcut, hsn, hbd, e1, bookB, nilB, exAppendX, exAppend, elems]
      · simp -implicitDefEqProofs [bookB, nilB, Nat.add_assoc]
    · have : j = 40 := by omega
      subst this
      have : c = 0 := by omega
      subst this
      obtain rfl := hmv rfl
      refine ⟨.exit 2, _, ?_, .inr ⟨by simp, rfl, rfl⟩⟩
      simp -implicitDefEqProofs [x54L1]) (40 - j0) s ⟨j0, mv0, by omega, by omega, hst⟩
  exact h2

set_option maxHeartbeats 2000000 in
theorem growA1_s0 (h : code 420 = some x420) (n m : Nat) (m2 m3 m4 : Bool) (v2 v3 v4 : List Val) (q0 : Nat) (w0 : List IV) (hn : n ≤ 20000) (hm : m ≤ 20000) :
    den code ext x54L1 ⟨5, [(0, .optr 0 0), (2, int64 1), (3, .optr 5 0), (4, .osl 3 0 2 m (some m)), (5, int64 0)], [.rich (bookB 3 (.osl 1 0 3 3 none)), .rich [.osl 2 0 2 n (some (n + 1)), .osl 6 0 2 q0 none, int64 1, .osl 3 0 2 m (some m), nilB, int64 2, .osl 4 0 2 m (some m), nilB, int64 3], .flat (tVal.row (v2)) m2, .flat (tVal.row (List.replicate (m) (markV 2))) m3, .flat (tVal.row (v4)) m4, .rich [.osl 3 0 2 m (some m), nilB, int64 2], .flat w0 true]⟩ = some (.normal, ⟨5, [(0, .optr 0 0), (2, int64 1), (3, .optr 5 0), (4, .osl 8 0 2 (m + 1) none), (5, int64 1)], [.rich (bookB 3 (.osl 1 0 3 3 none)), .rich [.osl 2 0 2 n (some (n + 1)), .osl 6 0 2 q0 none, int64 1, .osl 3 0 2 m (some m), nilB, int64 2, .osl 4 0 2 m (some m), nilB, int64 3], .flat (tVal.row (v2)) m2, .flat (tVal.row (List.replicate (m) (markV 2))) m3, .flat (tVal.row (v4)) m4, .rich [.osl 3 0 2 m (some m), nilB, int64 2], .flat w0 true, .flat [.val (.int .u8 0), .val (.int .i64 (-1002))] false, .flat (tVal.row (List.replicate (m + 1) (markV 2))) false]⟩) := by
  have hm := mark_spec (ext := ext) h 2 (by omega) (by omega)
  have e1 : IntKind.wrap .i64 1 = 1 := by decide
  have hcut := rep_cut 2 m
  have hsn : tVal.row (List.replicate m (markV 2)) ++ [IV.val (.int .u8 0), .val (.int .i64 (-1002))] = tVal.row (List.replicate (m + 1) (markV 2)) := rep_snoc 2 m
  have hbd : (m + 1) * 16 ≤ 140737488355328 := by omega
  have hno : (m + 1 ≤ m) = False := eq_false (by omega)
  simp -implicitDefEqProofs [x54L1, hm, hcut, hsn, hbd, hno, e1, bookB, nilB, exAppendX, exAppend, elems]

set_option maxHeartbeats 2000000 in
theorem growA1_inner (h : code 420 = some x420) (n m : Nat) (m2 m3 m4 : Bool) (v2 v3 v4 : List Val) (q0 : Nat) (w0 : List IV) (hn : n ≤ 20000) (hm : m ≤ 20000) {s : St} (hst : s.tidy [0, 2, 3, 4, 5] = ⟨5, [(0, .optr 0 0), (2, int64 1), (3, .optr 5 0), (4, .osl 3 0 2 m (some m)), (5, int64 0)], [.rich (bookB 3 (.osl 1 0 3 3 none)), .rich [.osl 2 0 2 n (some (n + 1)), .osl 6 0 2 q0 none, int64 1, .osl 3 0 2 m (some m), nilB, int64 2, .osl 4 0 2 m (some m), nilB, int64 3], .flat (tVal.row (v2)) m2, .flat (tVal.row (List.replicate (m) (markV 2))) m3, .flat (tVal.row (v4)) m4, .rich [.osl 3 0 2 m (some m), nilB, int64 2], .flat w0 true]⟩) :
    den code ext (.loop [0, 2, 3, 4, 5] x54L1) s = some (.exit 2, ⟨5, [(0, .optr 0 0), (2, int64 1), (3, .optr 5 0), (4, .osl 6 0 2 (m + 40) none), (5, int64 40), (25, avb false)], [.rich (bookB 3 (.osl 1 0 3 3 none)), .rich [.osl 2 0 2 n (some (n + 1)), .osl 7 0 2 q0 none, int64 1, .osl 3 0 2 m (some m), nilB, int64 2, .osl 4 0 2 m (some m), nilB, int64 3], .flat (tVal.row (v2)) m2, .flat (tVal.row (List.replicate (m) (markV 2))) m3, .flat (tVal.row (v4)) m4, .rich [.osl 3 0 2 m (some m), nilB, int64 2], .flat (tVal.row (List.replicate (m + 40) (markV 2))) true, .flat w0 true]⟩) := by
  rw [den_loop, hst, growA1_s0 h n m m2 m3 m4 v2 v3 v4 q0 w0 hn hm]
  simp only [andThen]
  exact growA1_long h n m m2 m3 m4 (v2) (List.replicate (m) (markV 2)) (v4) q0 w0 m 1 false (by omega) (by omega) (by simp -implicitDefEqProofs [bookB, nilB])

set_option maxHeartbeats 2000000 in
theorem growA1_item (h : code 420 = some x420) (n m : Nat) (m2 m3 m4 : Bool) (v2 : List Val) (hn : n ≤ 20000) (hm : m ≤ 20000) (hv2 : v2.length = n + 1) :
    ∃ s', den code ext x54L2 ⟨5, [(0, .optr 0 0), (2, int64 1)], [.rich (bookB 3 (.osl 1 0 3 3 none)), .rich [.osl 2 0 2 n (some (n + 1)), .osl 5 0 2 (n + 40) none, int64 1, .osl 3 0 2 m (some m), nilB, int64 2, .osl 4 0 2 m (some m), nilB, int64 3], .flat (tVal.row (List.replicate (n + 1) (markV 1))) m2, .flat (tVal.row (List.replicate (m) (markV 2))) m3, .flat (tVal.row (List.replicate (m) (markV 3))) m4, .flat (tVal.row (List.replicate (n + 40) (markV 1))) true]⟩ = some (.normal, s') ∧ s'.tidy [0, 2] = ⟨5, [(0, .optr 0 0), (2, int64 2)], [.rich (bookB 3 (.osl 1 0 3 3 none)), .rich [.osl 2 0 2 n (some (n + 1)), .osl 5 0 2 (n + 40) none, int64 1, .osl 3 0 2 m (some m), .osl 6 0 2 (m + 40) none, int64 2, .osl 4 0 2 m (some m), nilB, int64 3], .flat (tVal.row (List.replicate (n + 1) (markV 1))) m2, .flat (tVal.row (List.replicate (m) (markV 2))) m3, .flat (tVal.row (List.replicate (m) (markV 3))) m4, .flat (tVal.row (List.replicate (n + 40) (markV 1))) true, .flat (tVal.row (List.replicate (m + 40) (markV 2))) true]⟩ := by
  have e1 : IntKind.wrap .i64 2 = 2 := by decide
  refine ⟨⟨5, [(0, .optr 0 0), (2, int64 2)], [.rich (bookB 3 (.osl 1 0 3 3 none)), .rich [.osl 2 0 2 n (some (n + 1)), .osl 7 0 2 (n + 40) none, int64 1, .osl 3 0 2 m (some m), .osl 6 0 2 (m + 40) none, int64 2, .osl 4 0 2 m (some m), nilB, int64 3], .flat (tVal.row (List.replicate (n + 1) (markV 1))) m2, .flat (tVal.row (List.replicate (m) (markV 2))) m3, .flat (tVal.row (List.replicate (m) (markV 3))) m4, .rich [.osl 3 0 2 m (some m), nilB, int64 2], .flat (tVal.row (List.replicate (m + 40) (markV 2))) true, .flat (tVal.row (List.replicate (n + 40) (markV 1))) true]⟩, ?_, by simp -implicitDefEqProofs [bookB, nilB]⟩
  simp -implicitDefEqProofs [x54L2, e1, bookB, nilB]
  rw [growA1_inner h n m m2 m3 m4 (List.replicate (n + 1) (markV 1)) (List.replicate (m) (markV 2)) (List.replicate (m) (markV 3)) (n + 40) (tVal.row (List.replicate (n + 40) (markV 1))) hn hm (by simp -implicitDefEqProofs [bookB, nilB])]
  simp -implicitDefEqProofs [e1, bookB, nilB]

set_option maxHeartbeats 2000000 in
theorem growA2_long (h : code 420 = some x420) (n m : Nat) (m2 m3 m4 : Bool) (v2 v3 v4 : List Val) (q0 q1 : Nat) (w0 w1 : List IV) (b j0 : Nat) (mv0 : Bool) (hj0 : j0 < 40) (hb : b ≤ 20000) {s : St}
    (hst : s.tidy [0, 2, 3, 4, 5] = ⟨5, [(0, .optr 0 0), (2, int64 2), (3, .optr 5 0), (4, .osl 6 0 2 (b + j0) none), (5, int64 (j0 : Nat))], [.rich (bookB 3 (.osl 1 0 3 3 none)), .rich [.osl 2 0 2 n (some (n + 1)), .osl 7 0 2 q0 none, int64 1, .osl 3 0 2 m (some m), .osl 8 0 2 q1 none, int64 2, .osl 4 0 2 m (some m), nilB, int64 3], .flat (tVal.row (v2)) m2, .flat (tVal.row (v3)) m3, .flat (tVal.row (v4)) m4, .rich [.osl 4 0 2 m (some m), nilB, int64 3], .flat (tVal.row (List.replicate (b + j0) (markV 3))) mv0, .flat w0 true, .flat w1 true]⟩) :
    den code ext (.loop [0, 2, 3, 4, 5] x54L1) s = some (.exit 2, ⟨5, [(0, .optr 0 0), (2, int64 2), (3, .optr 5 0), (4, .osl 6 0 2 (b + 40) none), (5, int64 40), (25, avb false)], [.rich (bookB 3 (.osl 1 0 3 3 none)), .rich [.osl 2 0 2 n (some (n + 1)), .osl 7 0 2 q0 none, int64 1, .osl 3 0 2 m (some m), .osl 8 0 2 q1 none, int64 2, .osl 4 0 2 m (some m), nilB, int64 3], .flat (tVal.row (v2)) m2, .flat (tVal.row (v3)) m3, .flat (tVal.row (v4)) m4, .rich [.osl 4 0 2 m (some m), nilB, int64 3], .flat (tVal.row (List.replicate (b + 40) (markV 3))) true, .flat w0 true, .flat w1 true]⟩) := by
  obtain ⟨e, s', h2, _, rfl, rfl⟩ := loop_rule (code := code) (ext := ext) (keep := [0, 2, 3, 4, 5]) (b := x54L1) (fun c s => ∃ j mv, j + c = 40 ∧ (c = 0 → mv = true) ∧ s.tidy [0, 2, 3, 4, 5] = ⟨5, [(0, .optr 0 0), (2, int64 2), (3, .optr 5 0), (4, .osl 6 0 2 (b + j) none), (5, int64 (j : Nat))], [.rich (bookB 3 (.osl 1 0 3 3 none)), .rich [.osl 2 0 2 n (some (n + 1)), .osl 7 0 2 q0 none, int64 1, .osl 3 0 2 m (some m), .osl 8 0 2 q1 none, int64 2, .osl 4 0 2 m (some m), nilB, int64 3], .flat (tVal.row (v2)) m2, .flat (tVal.row (v3)) m3, .flat (tVal.row (v4)) m4, .rich [.osl 4 0 2 m (some m), nilB, int64 3], .flat (tVal.row (List.replicate (b + j) (markV 3))) mv, .flat w0 true, .flat w1 true]⟩)
    (fun e s' => e = .exit 2 ∧ s' = ⟨5, [(0, .optr 0 0), (2, int64 2), (3, .optr 5 0), (4, .osl 6 0 2 (b + 40) none), (5, int64 40), (25, avb false)], [.rich (bookB 3 (.osl 1 0 3 3 none)), .rich [.osl 2 0 2 n (some (n + 1)), .osl 7 0 2 q0 none, int64 1, .osl 3 0 2 m (some m), .osl 8 0 2 q1 none, int64 2, .osl 4 0 2 m (some m), nilB, int64 3], .flat (tVal.row (v2)) m2, .flat (tVal.row (v3)) m3, .flat (tVal.row (v4)) m4, .rich [.osl 4 0 2 m (some m), nilB, int64 3], .flat (tVal.row (List.replicate (b + 40) (markV 3))) true, .flat w0 true, .flat w1 true]⟩) (fun c s => by
    rintro ⟨j, mv, hj, hmv, hst⟩
    rw [hst]
    by_cases hlt : j < 40
    · have hm := mark_spec (ext := ext) h 3 (by omega) (by omega)
      have e1 : IntKind.wrap .i64 ((j : Int) + 1) = (j : Int) + 1 := wrapI64 (by omega) (by omega)
      have hcut := rep_cut 3 (b + j)
      have hsn : tVal.row (List.replicate (b + j) (markV 3)) ++ [IV.val (.int .u8 0), .val (.int .i64 (-1003))] = tVal.row (List.replicate (b + j + 1) (markV 3)) := rep_snoc 3 (b + j)
      have hbd : (b + j + 1) * 16 ≤ 140737488355328 := by omega
      have hlt' : (j : Int) < 40 := by omega
      refine ⟨.normal, ⟨5, [(0, .optr 0 0), (2, int64 2), (3, .optr 5 0), (4, .osl 6 0 2 (b + j + 1) none), (5, int64 ((j : Int) + 1))], [.rich (bookB 3 (.osl 1 0 3 3 none)), .rich [.osl 2 0 2 n (some (n + 1)), .osl 7 0 2 q0 none, int64 1, .osl 3 0 2 m (some m), .osl 8 0 2 q1 none, int64 2, .osl 4 0 2 m (some m), nilB, int64 3], .flat (tVal.row (v2)) m2, .flat (tVal.row (v3)) m3, .flat (tVal.row (v4)) m4, .rich [.osl 4 0 2 m (some m), nilB, int64 3], .flat (tVal.row (List.replicate (b + j + 1) (markV 3))) true, .flat w0 true, .flat w1 true, .flat [.val (.int .u8 0), .val (.int .i64 (-1003))] false]⟩, ?_, .inl ⟨rfl, c - 1, by omega, j + 1, true, by omega, fun _ => rfl, ?_⟩⟩
      · simp -implicitDefEqProofs [x54L1, hlt', hm, hcut, hsn, hbd, e1, bookB, nilB, exAppendX, exAppend, elems]
      · simp -implicitDefEqProofs [bookB, nilB, Nat.add_assoc]
    · have : j = 40 := by omega
      subst this
      have : c = 0 := by omega
      subst this
      obtain rfl := hmv rfl
      refine ⟨.exit 2, _, ?_, .inr ⟨by simp, rfl, rfl⟩⟩
      simp -implicitDefEqProofs [x54L1]) (40 - j0) s ⟨j0, mv0, by omega, by omega, hst⟩
  exact h2

set_option maxHeartbeats 2000000 in
theorem growA2_s0 (h : code 420 = some x420) (n m : Nat) (m2 m3 m4 : Bool) (v2 v3 v4 : List Val) (q0 q1 : Nat) (w0 w1 : List IV) (hn : n ≤ 20000) (hm : m ≤ 20000) :
    den code ext x54L1 ⟨5, [(0, .optr 0 0), (2, int64 2), (3, .optr 5 0), (4, .osl 4 0 2 m (some m)), (5, int64 0)], [.rich (bookB 3 (.osl 1 0 3 3 none)), .rich [.osl 2 0 2 n (some (n + 1)), .osl 6 0 2 q0 none, int64 1, .osl 3 0 2 m (some m), .osl 7 0 2 q1 none, int64 2, .osl 4 0 2 m (some m), nilB, int64 3], .flat (tVal.row (v2)) m2, .flat (tVal.row (v3)) m3, .flat (tVal.row (List.replicate (m) (markV 3))) m4, .rich [.osl 4 0 2 m (some m), nilB, int64 3], .flat w0 true, .flat w1 true]⟩ = some (.normal, ⟨5, [(0, .optr 0 0), (2, int64 2), (3, .optr 5 0), (4, .osl 9 0 2 (m + 1) none), (5, int64 1)], [.rich (bookB 3 (.osl 1 0 3 3 none)), .rich [.osl 2 0 2 n (some (n + 1)), .osl 6 0 2 q0 none, int64 1, .osl 3 0 2 m (some m), .osl 7 0 2 q1 none, int64 2, .osl 4 0 2 m (some m), nilB, int64 3], .flat (tVal.row (v2)) m2, .flat (tVal.row (v3)) m3, .flat (tVal.row (List.replicate (m) (markV 3))) m4, .rich [.osl 4 0 2 m (some m), nilB, int64 3], .flat w0 true, .flat w1 true, .flat [.val (.int .u8 0), .val (.int .i64 (-1003))] false, .flat (tVal.row (List.replicate (m + 1) (markV 3))) false]⟩) := by
  have hm := mark_spec (ext := ext) h 3 (by omega) (by omega)
  have e1 : IntKind.wrap .i64 1 = 1 := by decide
  have hcut := rep_cut 3 m
  have hsn : tVal.row (List.replicate m (markV 3)) ++ [IV.val (.int .u8 0), .val (.int .i64 (-1003))] = tVal.row (List.replicate (m + 1) (markV 3)) := rep_snoc 3 m
  have hbd : (m + 1) * 16 ≤ 140737488355328 := by omega
  have hno : (m + 1 ≤ m) = False := eq_false (by omega)
  simp -implicitDefEqProofs [x54L1, hm, hcut, hsn, hbd, hno, e1, bookB, nilB, exAppendX, exAppend, elems]

set_option maxHeartbeats 2000000 in
theorem growA2_inner (h : code 420 = some x420) (n m : Nat) (m2 m3 m4 : Bool) (v2 v3 v4 : List Val) (q0 q1 : Nat) (w0 w1 : List IV) (hn : n ≤ 20000) (hm : m ≤ 20000) {s : St} (hst : s.tidy [0, 2, 3, 4, 5] = ⟨5, [(0, .optr 0 0), (2, int64 2), (3, .optr 5 0), (4, .osl 4 0 2 m (some m)), (5, int64 0)], [.rich (bookB 3 (.osl 1 0 3 3 none)), .rich [.osl 2 0 2 n (some (n + 1)), .osl 6 0 2 q0 none, int64 1, .osl 3 0 2 m (some m), .osl 7 0 2 q1 none, int64 2, .osl 4 0 2 m (some m), nilB, int64 3], .flat (tVal.row (v2)) m2, .flat (tVal.row (v3)) m3, .flat (tVal.row (List.replicate (m) (markV 3))) m4, .rich [.osl 4 0 2 m (some m), nilB, int64 3], .flat w0 true, .flat w1 true]⟩) :
    den code ext (.loop [0, 2, 3, 4, 5] x54L1) s = some (.exit 2, ⟨5, [(0, .optr 0 0), (2, int64 2), (3, .optr 5 0), (4, .osl 6 0 2 (m + 40) none), (5, int64 40), (25, avb false)], [.rich (bookB 3 (.osl 1 0 3 3 none)), .rich [.osl 2 0 2 n (some (n + 1)), .osl 7 0 2 q0 none, int64 1, .osl 3 0 2 m (some m), .osl 8 0 2 q1 none, int64 2, .osl 4 0 2 m (some m), nilB, int64 3], .flat (tVal.row (v2)) m2, .flat (tVal.row (v3)) m3, .flat (tVal.row (List.replicate (m) (markV 3))) m4, .rich [.osl 4 0 2 m (some m), nilB, int64 3], .flat (tVal.row (List.replicate (m + 40) (markV 3))) true, .flat w0 true, .flat w1 true]⟩) := by
  rw [den_loop, hst, growA2_s0 h n m m2 m3 m4 v2 v3 v4 q0 q1 w0 w1 hn hm]
  simp only [andThen]
  exact growA2_long h n m m2 m3 m4 (v2) (v3) (List.replicate (m) (markV 3)) q0 q1 w0 w1 m 1 false (by omega) (by omega) (by simp -implicitDefEqProofs [bookB, nilB])

set_option maxHeartbeats 2000000 in
theorem growA2_item (h : code 420 = some x420) (n m : Nat) (m2 m3 m4 : Bool) (v2 : List Val) (hn : n ≤ 20000) (hm : m ≤ 20000) (hv2 : v2.length = n + 1) :
    ∃ s', den code ext x54L2 ⟨5, [(0, .optr 0 0), (2, int64 2)], [.rich (bookB 3 (.osl 1 0 3 3 none)), .rich [.osl 2 0 2 n (some (n + 1)), .osl 5 0 2 (n + 40) none, int64 1, .osl 3 0 2 m (some m), .osl 6 0 2 (m + 40) none, int64 2, .osl 4 0 2 m (some m), nilB, int64 3], .flat (tVal.row (List.replicate (n + 1) (markV 1))) m2, .flat (tVal.row (List.replicate (m) (markV 2))) m3, .flat (tVal.row (List.replicate (m) (markV 3))) m4, .flat (tVal.row (List.replicate (n + 40) (markV 1))) true, .flat (tVal.row (List.replicate (m + 40) (markV 2))) true]⟩ = some (.normal, s') ∧ s'.tidy [0, 2] = ⟨5, [(0, .optr 0 0), (2, int64 3)], [.rich (bookB 3 (.osl 1 0 3 3 none)), .rich [.osl 2 0 2 n (some (n + 1)), .osl 5 0 2 (n + 40) none, int64 1, .osl 3 0 2 m (some m), .osl 6 0 2 (m + 40) none, int64 2, .osl 4 0 2 m (some m), .osl 7 0 2 (m + 40) none, int64 3], .flat (tVal.row (List.replicate (n + 1) (markV 1))) m2, .flat (tVal.row (List.replicate (m) (markV 2))) m3, .flat (tVal.row (List.replicate (m) (markV 3))) m4, .flat (tVal.row (List.replicate (n + 40) (markV 1))) true, .flat (tVal.row (List.replicate (m + 40) (markV 2))) true, .flat (tVal.row (List.replicate (m + 40) (markV 3))) true]⟩ := by
  have e1 : IntKind.wrap .i64 3 = 3 := by decide
  refine ⟨⟨5, [(0, .optr 0 0), (2, int64 3)], [.rich (bookB 3 (.osl 1 0 3 3 none)), .rich [.osl 2 0 2 n (some (n + 1)), .osl 7 0 2 (n + 40) none, int64 1, .osl 3 0 2 m (some m), .osl 8 0 2 (m + 40) none, int64 2, .osl 4 0 2 m (some m), .osl 6 0 2 (m + 40) none, int64 3], .flat (tVal.row (List.replicate (n + 1) (markV 1))) m2, .flat (tVal.row (List.replicate (m) (markV 2))) m3, .flat (tVal.row (List.replicate (m) (markV 3))) m4, .rich [.osl 4 0 2 m (some m), nilB, int64 3], .flat (tVal.row (List.replicate (m + 40) (markV 3))) true, .flat (tVal.row (List.replicate (n + 40) (markV 1))) true, .flat (tVal.row (List.replicate (m + 40) (markV 2))) true]⟩, ?_, by simp -implicitDefEqProofs [bookB, nilB]⟩
  simp -implicitDefEqProofs [x54L2, e1, bookB, nilB]
  rw [growA2_inner h n m m2 m3 m4 (List.replicate (n + 1) (markV 1)) (List.replicate (m) (markV 2)) (List.replicate (m) (markV 3)) (n + 40) (m + 40) (tVal.row (List.replicate (n + 40) (markV 1))) (tVal.row (List.replicate (m + 40) (markV 2))) hn hm (by simp -implicitDefEqProofs [bookB, nilB])]
  simp -implicitDefEqProofs [e1, bookB, nilB]

set_option maxHeartbeats 2000000 in
theorem growA_spec (h : code 420 = some x420) (h54 : code 54 = some x54) (n m : Nat) (m2 m3 m4 : Bool) (v2 : List Val) (hn : n ≤ 20000) (hm : m ≤ 20000) (hv2 : v2.length = n + 1) :
    callW code ext 54 [.optr 0 0] [.rich (bookB 3 (.osl 1 0 3 3 none)), .rich [.osl 2 0 2 n (some (n + 1)), nilB, int64 1, .osl 3 0 2 m (some m), nilB, int64 2, .osl 4 0 2 m (some m), nilB, int64 3], .flat (tVal.row (marks 1 n v2)) m2, .flat (tVal.row (List.replicate (m) (markV 2))) m3, .flat (tVal.row (List.replicate (m) (markV 3))) m4] = some (.tup [], [.rich (bookB 3 (.osl 1 0 3 3 none)), .rich [.osl 2 0 2 n (some (n + 1)), .osl 5 0 2 (n + 40) none, int64 1, .osl 3 0 2 m (some m), .osl 6 0 2 (m + 40) none, int64 2, .osl 4 0 2 m (some m), .osl 7 0 2 (m + 40) none, int64 3], .flat (tVal.row (List.replicate (n + 1) (markV 1))) m2, .flat (tVal.row (List.replicate (m) (markV 2))) m3, .flat (tVal.row (List.replicate (m) (markV 3))) m4, .flat (tVal.row (List.replicate (n + 40) (markV 1))) true, .flat (tVal.row (List.replicate (m + 40) (markV 2))) true, .flat (tVal.row (List.replicate (m + 40) (markV 3))) true]) := by
  obtain ⟨s1, a1, b1⟩ := growA0_item (ext := ext) h n m m2 m3 m4 v2 hn hm hv2
  obtain ⟨s2, a2, b2⟩ := growA1_item (ext := ext) h n m m2 m3 m4 v2 hn hm hv2
  obtain ⟨s3, a3, b3⟩ := growA2_item (ext := ext) h n m m2 m3 m4 v2 hn hm hv2
  rw [callW_fun code ext h54]
  simp -implicitDefEqProofs [x54, bookB, nilB]
  rw [den_loop, show (St.mk 5 _ _).tidy [0, 2] = ⟨5, [(0, .optr 0 0), (2, int64 0)], [.rich (bookB 3 (.osl 1 0 3 3 none)), .rich [.osl 2 0 2 n (some (n + 1)), nilB, int64 1, .osl 3 0 2 m (some m), nilB, int64 2, .osl 4 0 2 m (some m), nilB, int64 3], .flat (tVal.row (marks 1 n v2)) m2, .flat (tVal.row (List.replicate (m) (markV 2))) m3, .flat (tVal.row (List.replicate (m) (markV 3))) m4]⟩ by simp -implicitDefEqProofs [bookB, nilB], a1]
  simp only [andThen]
  rw [den_loop, b1, a2]
  simp only [andThen]
  rw [den_loop, b2, a3]
  simp only [andThen]
  rw [den_loop, b3]
  simp -implicitDefEqProofs [x54L2, bookB, nilB]

set_option maxHeartbeats 2000000 in
theorem growN0_long (h : code 420 = some x420) (n : Nat) (m2 : Bool) (v2 : List Val) (b j0 : Nat) (mv0 : Bool) (hj0 : j0 < 40) (hb : b ≤ 20000) {s : St}
    (hst : s.tidy [0, 2, 3, 4, 5] = ⟨3, [(0, .optr 0 0), (2, int64 0), (3, .optr 3 0), (4, .osl 4 0 2 (b + j0) none), (5, int64 (j0 : Nat))], [.rich (bookB 3 (.osl 1 0 3 3 none)), .rich [.osl 2 0 2 n (some (n + 1)), nilB, int64 1, nilB, nilB, int64 2, nilB, nilB, int64 3], .flat (tVal.row (v2)) m2, .rich [.osl 2 0 2 n (some (n + 1)), nilB, int64 1], .flat (tVal.row (List.replicate (b + j0) (markV 1))) mv0]⟩) :
    den code ext (.loop [0, 2, 3, 4, 5] x54L1) s = some (.exit 2, ⟨3, [(0, .optr 0 0), (2, int64 0), (3, .optr 3 0), (4, .osl 4 0 2 (b + 40) none), (5, int64 40), (25, avb false)], [.rich (bookB 3 (.osl 1 0 3 3 none)), .rich [.osl 2 0 2 n (some (n + 1)), nilB, int64 1, nilB, nilB, int64 2, nilB, nilB, int64 3], .flat (tVal.row (v2)) m2, .rich [.osl 2 0 2 n (some (n + 1)), nilB, int64 1], .flat (tVal.row (List.replicate (b + 40) (markV 1))) true]⟩) := by
  obtain ⟨e, s', h2, _, rfl, rfl⟩ := loop_rule (code := code) (ext := ext) (keep := [0, 2, 3, 4, 5]) (b := x54L1) (fun c s => ∃ j mv, j + c = 40 ∧ (c = 0 → mv = true) ∧ s.tidy [0, 2, 3, 4, 5] = ⟨3, [(0, .optr 0 0), (2, int64 0), (3, .optr 3 0), (4, .osl 4 0 2 (b + j) none), (5, int64 (j : Nat))], [.rich (bookB 3 (.osl 1 0 3 3 none)), .rich [.osl 2 0 2 n (some (n + 1)), nilB, int64 1, nilB, nilB, int64 2, nilB, nilB, int64 3], .flat (tVal.row (v2)) m2, .rich [.osl 2 0 2 n (some (n + 1)), nilB, int64 1], .flat (tVal.row (List.replicate (b + j) (markV 1))) mv]⟩)
    (fun e s' => e = .exit 2 ∧ s' = ⟨3, [(0, .optr 0 0), (2, int64 0), (3, .optr 3 0), (4, .osl 4 0 2 (b + 40) none), (5, int64 40), (25, avb false)], [.rich (bookB 3 (.osl 1 0 3 3 none)), .rich [.osl 2 0 2 n (some (n + 1)), nilB, int64 1, nilB, nilB, int64 2, nilB, nilB, int64 3], .flat (tVal.row (v2)) m2, .rich [.osl 2 0 2 n (some (n + 1)), nilB, int64 1], .flat (tVal.row (List.replicate (b + 40) (markV 1))) true]⟩) (fun c s => by
    rintro ⟨j, mv, hj, hmv, hst⟩
    rw [hst]
    by_cases hlt : j < 40
    · have hm := mark_spec (ext := ext) h 1 (by omega) (by omega)
      have e1 : IntKind.wrap .i64 ((j : Int) + 1) = (j : Int) + 1 := wrapI64 (by omega) (by omega)
      have hcut := rep_cut 1 (b + j)
      have hsn : tVal.row (List.replicate (b + j) (markV 1)) ++ [IV.val (.int .u8 0), .val (.int .i64 (-1001))] = tVal.row (List.replicate (b + j + 1) (markV 1)) := rep_snoc 1 (b + j)
      have hbd : (b + j + 1) * 16 ≤ 140737488355328 := by omega
      have hlt' : (j : Int) < 40 := by omega
      refine ⟨.normal, ⟨3, [(0, .optr 0 0), (2, int64 0), (3, .optr 3 0), (4, .osl 4 0 2 (b + j + 1) none), (5, int64 ((j : Int) + 1))], [.rich (bookB 3 (.osl 1 0 3 3 none)), .rich [.osl 2 0 2 n (some (n + 1)), nilB, int64 1, nilB, nilB, int64 2, nilB, nilB, int64 3], .flat (tVal.row (v2)) m2, .rich [.osl 2 0 2 n (some (n + 1)), nilB, int64 1], .flat (tVal.row (List.replicate (b + j + 1) (markV 1))) true, .flat [.val (.int .u8 0), .val (.int .i64 (-1001))] false]⟩, ?_, .inl ⟨rfl, c - 1, by omega, j + 1, true, by omega, fun _ => rfl, ?_⟩⟩
      · simp -implicitDefEqProofs [x54L1, hlt', hm, hcut, hsn, hbd, e1, bookB, nilB, exAppendX, exAppend, elems]
      · simp -implicitDefEqProofs [bookB, nilB, Nat.add_assoc]
    · have : j = 40 := by omega
      subst this
      have : c = 0 := by omega
      subst this
      obtain rfl := hmv rfl
      refine ⟨.exit 2, _, ?_, .inr ⟨by simp, rfl, rfl⟩⟩
      simp -implicitDefEqProofs [x54L1]) (40 - j0) s ⟨j0, mv0, by omega, by omega, hst⟩
  exact h2

set_option maxHeartbeats 2000000 in
theorem growN0_s0 (h : code 420 = some x420) (n : Nat) (m2 : Bool) (v2 : List Val) (hn : n ≤ 20000) (hv2 : v2.length = n + 1) :
    den code ext x54L1 ⟨3, [(0, .optr 0 0), (2, int64 0), (3, .optr 3 0), (4, .osl 2 0 2 n (some (n + 1))), (5, int64 0)], [.rich (bookB 3 (.osl 1 0 3 3 none)), .rich [.osl 2 0 2 n (some (n + 1)), nilB, int64 1, nilB, nilB, int64 2, nilB, nilB, int64 3], .flat (tVal.row (marks 1 n v2)) m2, .rich [.osl 2 0 2 n (some (n + 1)), nilB, int64 1]]⟩ = some (.normal, ⟨3, [(0, .optr 0 0), (2, int64 0), (3, .optr 3 0), (4, .osl 2 0 2 (n + 1) (some (n + 1))), (5, int64 1)], [.rich (bookB 3 (.osl 1 0 3 3 none)), .rich [.osl 2 0 2 n (some (n + 1)), nilB, int64 1, nilB, nilB, int64 2, nilB, nilB, int64 3], .flat (tVal.row (List.replicate (n + 1) (markV 1))) m2, .rich [.osl 2 0 2 n (some (n + 1)), nilB, int64 1], .flat [.val (.int .u8 0), .val (.int .i64 (-1001))] false]⟩) := by
  have hm := mark_spec (ext := ext) h 1 (by omega) (by omega)
  have e1 : IntKind.wrap .i64 1 = 1 := by decide
  have hset : setAll (tVal.row (marks 1 n v2)) (n * 2) [IV.val (.int .u8 0), .val (.int .i64 (-1001))] = tVal.row (marks 1 (n + 1) v2) := marks_row 1 (j := n) (vs := v2) (by omega)
  rw [marks_full 1 hv2] at hset
  have hrl := marks_rowlen 1 (j := n) (vs := v2) (by omega)
  have hfit : (n + 1) * 2 ≤ v2.length * 2 := by omega
  simp -implicitDefEqProofs [x54L1, hm, hset, hrl, hfit, e1, bookB, nilB, exAppendX, exAppend, elems]

set_option maxHeartbeats 2000000 in
theorem growN0_s1 (h : code 420 = some x420) (n : Nat) (m2 : Bool) (v2 : List Val) (hn : n ≤ 20000) :
    den code ext x54L1 ⟨3, [(0, .optr 0 0), (2, int64 0), (3, .optr 3 0), (4, .osl 2 0 2 (n + 1) (some (n + 1))), (5, int64 1)], [.rich (bookB 3 (.osl 1 0 3 3 none)), .rich [.osl 2 0 2 n (some (n + 1)), nilB, int64 1, nilB, nilB, int64 2, nilB, nilB, int64 3], .flat (tVal.row (List.replicate (n + 1) (markV 1))) m2, .rich [.osl 2 0 2 n (some (n + 1)), nilB, int64 1]]⟩ = some (.normal, ⟨3, [(0, .optr 0 0), (2, int64 0), (3, .optr 3 0), (4, .osl 5 0 2 (n + 2) none), (5, int64 2)], [.rich (bookB 3 (.osl 1 0 3 3 none)), .rich [.osl 2 0 2 n (some (n + 1)), nilB, int64 1, nilB, nilB, int64 2, nilB, nilB, int64 3], .flat (tVal.row (List.replicate (n + 1) (markV 1))) m2, .rich [.osl 2 0 2 n (some (n + 1)), nilB, int64 1], .flat [.val (.int .u8 0), .val (.int .i64 (-1001))] false, .flat (tVal.row (List.replicate (n + 2) (markV 1))) false]⟩) := by
  have hm := mark_spec (ext := ext) h 1 (by omega) (by omega)
  have e1 : IntKind.wrap .i64 2 = 2 := by decide
  have hcut := rep_cut 1 (n + 1)
  have hsn : tVal.row (List.replicate (n + 1) (markV 1)) ++ [IV.val (.int .u8 0), .val (.int .i64 (-1001))] = tVal.row (List.replicate (n + 1 + 1) (markV 1)) := rep_snoc 1 (n + 1)
  have hbd : (n + 1 + 1) * 16 ≤ 140737488355328 := by omega
  have hno : (n + 1 ≤ n) = False := eq_false (by omega)
  simp -implicitDefEqProofs [x54L1, hm, hcut, hsn, hbd, hno, e1, bookB, nilB, exAppendX, exAppend, elems]

set_option maxHeartbeats 2000000 in
theorem growN0_inner (h : code 420 = some x420) (n : Nat) (m2 : Bool) (v2 : List Val) (hn : n ≤ 20000) (hv2 : v2.length = n + 1) {s : St} (hst : s.tidy [0, 2, 3, 4, 5] = ⟨3, [(0, .optr 0 0), (2, int64 0), (3, .optr 3 0), (4, .osl 2 0 2 n (some (n + 1))), (5, int64 0)], [.rich (bookB 3 (.osl 1 0 3 3 none)), .rich [.osl 2 0 2 n (some (n + 1)), nilB, int64 1, nilB, nilB, int64 2, nilB, nilB, int64 3], .flat (tVal.row (marks 1 n v2)) m2, .rich [.osl 2 0 2 n (some (n + 1)), nilB, int64 1]]⟩) :
    den code ext (.loop [0, 2, 3, 4, 5] x54L1) s = some (.exit 2, ⟨3, [(0, .optr 0 0), (2, int64 0), (3, .optr 3 0), (4, .osl 4 0 2 (n + 40) none), (5, int64 40), (25, avb false)], [.rich (bookB 3 (.osl 1 0 3 3 none)), .rich [.osl 2 0 2 n (some (n + 1)), nilB, int64 1, nilB, nilB, int64 2, nilB, nilB, int64 3], .flat (tVal.row (List.replicate (n + 1) (markV 1))) m2, .rich [.osl 2 0 2 n (some (n + 1)), nilB, int64 1], .flat (tVal.row (List.replicate (n + 40) (markV 1))) true]⟩) := by
  rw [den_loop, hst, growN0_s0 h n m2 v2 hn hv2]
  simp only [andThen]
  rw [den_loop, show (St.mk 3 _ _).tidy [0, 2, 3, 4, 5] = ⟨3, [(0, .optr 0 0), (2, int64 0), (3, .optr 3 0), (4, .osl 2 0 2 (n + 1) (some (n + 1))), (5, int64 1)], [.rich (bookB 3 (.osl 1 0 3 3 none)), .rich [.osl 2 0 2 n (some (n + 1)), nilB, int64 1, nilB, nilB, int64 2, nilB, nilB, int64 3], .flat (tVal.row (List.replicate (n + 1) (markV 1))) m2, .rich [.osl 2 0 2 n (some (n + 1)), nilB, int64 1]]⟩ by simp -implicitDefEqProofs [bookB, nilB], growN0_s1 h n m2 v2 hn]
  simp only [andThen]
  exact growN0_long h n m2 (List.replicate (n + 1) (markV 1))  n 2 false (by omega) hn (by simp -implicitDefEqProofs [bookB, nilB])

set_option maxHeartbeats 2000000 in
theorem growN0_item (h : code 420 = some x420) (n : Nat) (m2 : Bool) (v2 : List Val) (hn : n ≤ 20000) (hv2 : v2.length = n + 1) :
    ∃ s', den code ext x54L2 ⟨3, [(0, .optr 0 0), (2, int64 0)], [.rich (bookB 3 (.osl 1 0 3 3 none)), .rich [.osl 2 0 2 n (some (n + 1)), nilB, int64 1, nilB, nilB, int64 2, nilB, nilB, int64 3], .flat (tVal.row (marks 1 n v2)) m2]⟩ = some (.normal, s') ∧ s'.tidy [0, 2] = ⟨3, [(0, .optr 0 0), (2, int64 1)], [.rich (bookB 3 (.osl 1 0 3 3 none)), .rich [.osl 2 0 2 n (some (n + 1)), .osl 3 0 2 (n + 40) none, int64 1, nilB, nilB, int64 2, nilB, nilB, int64 3], .flat (tVal.row (List.replicate (n + 1) (markV 1))) m2, .flat (tVal.row (List.replicate (n + 40) (markV 1))) true]⟩ := by
  have e1 : IntKind.wrap .i64 1 = 1 := by decide
  refine ⟨⟨3, [(0, .optr 0 0), (2, int64 1)], [.rich (bookB 3 (.osl 1 0 3 3 none)), .rich [.osl 2 0 2 n (some (n + 1)), .osl 4 0 2 (n + 40) none, int64 1, nilB, nilB, int64 2, nilB, nilB, int64 3], .flat (tVal.row (List.replicate (n + 1) (markV 1))) m2, .rich [.osl 2 0 2 n (some (n + 1)), nilB, int64 1], .flat (tVal.row (List.replicate (n + 40) (markV 1))) true]⟩, ?_, by simp -implicitDefEqProofs [bookB, nilB]⟩
  simp -implicitDefEqProofs [x54L2, e1, bookB, nilB]
  rw [growN0_inner h n m2 (v2)  hn hv2 (by simp -implicitDefEqProofs [bookB, nilB])]
  simp -implicitDefEqProofs [e1, bookB, nilB]

set_option maxHeartbeats 2000000 in
theorem growN1_long (h : code 420 = some x420) (n : Nat) (m2 : Bool) (v2 : List Val) (q0 : Nat) (w0 : List IV) (b j0 : Nat) (mv0 : Bool) (hj0 : j0 < 40) (hb : b ≤ 20000) {s : St}
    (hst : s.tidy [0, 2, 3, 4, 5] = ⟨3, [(0, .optr 0 0), (2, int64 1), (3, .optr 3 0), (4, .osl 4 0 2 (b + j0) none), (5, int64 (j0 : Nat))], [.rich (bookB 3 (.osl 1 0 3 3 none)), .rich [.osl 2 0 2 n (some (n + 1)), .osl 5 0 2 q0 none, int64 1, nilB, nilB, int64 2, nilB, nilB, int64 3], .flat (tVal.row (v2)) m2, .rich [nilB, nilB, int64 2], .flat (tVal.row (List.replicate (b + j0) (markV 2))) mv0, .flat w0 true]⟩) :
    den code ext (.loop [0, 2, 3, 4, 5] x54L1) s = some (.exit 2, ⟨3, [(0, .optr 0 0), (2, int64 1), (3, .optr 3 0), (4, .osl 4 0 2 (b + 40) none), (5, int64 40), (25, avb false)], [.rich (bookB 3 (.osl 1 0 3 3 none)), .rich [.osl 2 0 2 n (some (n + 1)), .osl 5 0 2 q0 none, int64 1, nilB, nilB, int64 2, nilB, nilB, int64 3], .flat (tVal.row (v2)) m2, .rich [nilB, nilB, int64 2], .flat (tVal.row (List.replicate (b + 40) (markV 2))) true, .flat w0 true]⟩) := by
  obtain ⟨e, s', h2, _, rfl, rfl⟩ := loop_rule (code := code) (ext := ext) (keep := [0, 2, 3, 4, 5]) (b := x54L1) (fun c s => ∃ j mv, j + c = 40 ∧ (c = 0 → mv = true) ∧ s.tidy [0, 2, 3, 4, 5] = ⟨3, [(0, .optr 0 0), (2, int64 1), (3, .optr 3 0), (4, .osl 4 0 2 (b + j) none), (5, int64 (j : Nat))], [.rich (bookB 3 (.osl 1 0 3 3 none)), .rich [.osl 2 0 2 n (some (n + 1)), .osl 5 0 2 q0 none, int64 1, nilB, nilB, int64 2, nilB, nilB, int64 3], .flat (tVal.row (v2)) m2, .rich [nilB, nilB, int64 2], .flat (tVal.row (List.replicate (b + j) (markV 2))) mv, .flat w0 true]⟩)
    (fun e s' => e = .exit 2 ∧ s' = ⟨3, [(0, .optr 0 0), (2, int64 1), (3, .optr 3 0), (4, .osl 4 0 2 (b + 40) none), (5, int64 40), (25, avb false)], [.rich (bookB 3 (.osl 1 0 3 3 none)), .rich [.osl 2 0 2 n (some (n + 1)), .osl 5 0 2 q0 none, int64 1, nilB, nilB, int64 2, nilB, nilB, int64 3], .flat (tVal.row (v2)) m2, .rich [nilB, nilB, int64 2], .flat (tVal.row (List.replicate (b + 40) (markV 2))) true, .flat w0 true]⟩) (fun c s => by
    rintro ⟨j, mv, hj, hmv, hst⟩
    rw [hst]
    by_cases hlt : j < 40
    · have hm := mark_spec (ext := ext) h 2 (by omega) (by omega)
      have e1 : IntKind.wrap .i64 ((j : Int) + 1) = (j : Int) + 1 := wrapI64 (by omega) (by omega)
      have hcut := rep_cut 2 (b + j)
      have hsn : tVal.row (List.replicate (b + j) (markV 2)) ++ [IV.val (.int .u8 0), .val (.int .i64 (-1002))] = tVal.row (List.replicate (b + j + 1) (markV 2)) := rep_snoc 2 (b + j)
      have hbd : (b + j + 1) * 16 ≤ 140737488355328 := by omega
      have hlt' : (j : Int) < 40 := by omega
      refine ⟨.normal, ⟨3, [(0, .optr 0 0), (2, int64 1), (3, .optr 3 0), (4, .osl 4 0 2 (b + j + 1) none), (5, int64 ((j : Int) + 1))], [.rich (bookB 3 (.osl 1 0 3 3 none)), .rich [.osl 2 0 2 n (some (n + 1)), .osl 5 0 2 q0 none, int64 1, nilB, nilB, int64 2, nilB, nilB, int64 3], .flat (tVal.row (v2)) m2, .rich [nilB, nilB, int64 2], .flat (tVal.row (List.replicate (b + j + 1) (markV 2))) true, .flat w0 true, .flat [.val (.int .u8 0), .val (.int .i64 (-1002))] false]⟩, ?_, .inl ⟨rfl, c - 1, by omega, j + 1, true, by omega, fun _ => rfl, ?_⟩⟩
      · simp -implicitDefEqProofs [x54L1, hlt', hm, hcut, hsn, hbd, e1, bookB, nilB, exAppendX, exAppend, elems]
      · simp -implicitDefEqProofs [bookB, nilB, Nat.add_assoc]
    · have : j = 40 := by omega
      subst this
      have : c = 0 := by omega
      subst this
      obtain rfl := hmv rfl
      refine ⟨.exit 2, _, ?_, .inr ⟨by simp, rfl, rfl⟩⟩
      simp -implicitDefEqProofs [x54L1]) (40 - j0) s ⟨j0, mv0, by omega, by omega, hst⟩
  exact h2

set_option maxHeartbeats 2000000 in
theorem growN1_s0 (h : code 420 = some x420) (n : Nat) (m2 : Bool) (v2 : List Val) (q0 : Nat) (w0 : List IV) (hn : n ≤ 20000) :
    den code ext x54L1 ⟨3, [(0, .optr 0 0), (2, int64 1), (3, .optr 3 0), (4, nilB), (5, int64 0)], [.rich (bookB 3 (.osl 1 0 3 3 none)), .rich [.osl 2 0 2 n (some (n + 1)), .osl 4 0 2 q0 none, int64 1, nilB, nilB, int64 2, nilB, nilB, int64 3], .flat (tVal.row (v2)) m2, .rich [nilB, nilB, int64 2], .flat w0 true]⟩ = some (.normal, ⟨3, [(0, .optr 0 0), (2, int64 1), (3, .optr 3 0), (4, .osl 6 0 2 1 none), (5, int64 1)], [.rich (bookB 3 (.osl 1 0 3 3 none)), .rich [.osl 2 0 2 n (some (n + 1)), .osl 4 0 2 q0 none, int64 1, nilB, nilB, int64 2, nilB, nilB, int64 3], .flat (tVal.row (v2)) m2, .rich [nilB, nilB, int64 2], .flat w0 true, .flat [.val (.int .u8 0), .val (.int .i64 (-1002))] false, .flat (tVal.row (List.replicate (1) (markV 2))) false]⟩) := by
  have hm := mark_spec (ext := ext) h 2 (by omega) (by omega)
  have e1 : IntKind.wrap .i64 1 = 1 := by decide
  have hsn : [IV.val (.int .u8 0), .val (.int .i64 (-1002))] = tVal.row (List.replicate 1 (markV 2)) := rep_one 2
  rw [← hsn]; simp -implicitDefEqProofs [x54L1, hm, e1, bookB, nilB, exAppendX, exAppend, elems]

set_option maxHeartbeats 2000000 in
theorem growN1_inner (h : code 420 = some x420) (n : Nat) (m2 : Bool) (v2 : List Val) (q0 : Nat) (w0 : List IV) (hn : n ≤ 20000) {s : St} (hst : s.tidy [0, 2, 3, 4, 5] = ⟨3, [(0, .optr 0 0), (2, int64 1), (3, .optr 3 0), (4, nilB), (5, int64 0)], [.rich (bookB 3 (.osl 1 0 3 3 none)), .rich [.osl 2 0 2 n (some (n + 1)), .osl 4 0 2 q0 none, int64 1, nilB, nilB, int64 2, nilB, nilB, int64 3], .flat (tVal.row (v2)) m2, .rich [nilB, nilB, int64 2], .flat w0 true]⟩) :
    den code ext (.loop [0, 2, 3, 4, 5] x54L1) s = some (.exit 2, ⟨3, [(0, .optr 0 0), (2, int64 1), (3, .optr 3 0), (4, .osl 4 0 2 (0 + 40) none), (5, int64 40), (25, avb false)], [.rich (bookB 3 (.osl 1 0 3 3 none)), .rich [.osl 2 0 2 n (some (n + 1)), .osl 5 0 2 q0 none, int64 1, nilB, nilB, int64 2, nilB, nilB, int64 3], .flat (tVal.row (v2)) m2, .rich [nilB, nilB, int64 2], .flat (tVal.row (List.replicate (0 + 40) (markV 2))) true, .flat w0 true]⟩) := by
  rw [den_loop, hst, growN1_s0 h n m2 v2 q0 w0 hn]
  simp only [andThen]
  exact growN1_long h n m2 (v2) q0 w0 0 1 false (by omega) (by omega) (by simp -implicitDefEqProofs [bookB, nilB])

set_option maxHeartbeats 2000000 in
theorem growN1_item (h : code 420 = some x420) (n : Nat) (m2 : Bool) (v2 : List Val) (hn : n ≤ 20000) (hv2 : v2.length = n + 1) :
    ∃ s', den code ext x54L2 ⟨3, [(0, .optr 0 0), (2, int64 1)], [.rich (bookB 3 (.osl 1 0 3 3 none)), .rich [.osl 2 0 2 n (some (n + 1)), .osl 3 0 2 (n + 40) none, int64 1, nilB, nilB, int64 2, nilB, nilB, int64 3], .flat (tVal.row (List.replicate (n + 1) (markV 1))) m2, .flat (tVal.row (List.replicate (n + 40) (markV 1))) true]⟩ = some (.normal, s') ∧ s'.tidy [0, 2] = ⟨3, [(0, .optr 0 0), (2, int64 2)], [.rich (bookB 3 (.osl 1 0 3 3 none)), .rich [.osl 2 0 2 n (some (n + 1)), .osl 3 0 2 (n + 40) none, int64 1, nilB, .osl 4 0 2 (0 + 40) none, int64 2, nilB, nilB, int64 3], .flat (tVal.row (List.replicate (n + 1) (markV 1))) m2, .flat (tVal.row (List.replicate (n + 40) (markV 1))) true, .flat (tVal.row (List.replicate (0 + 40) (markV 2))) true]⟩ := by
  have e1 : IntKind.wrap .i64 2 = 2 := by decide
  refine ⟨⟨3, [(0, .optr 0 0), (2, int64 2)], [.rich (bookB 3 (.osl 1 0 3 3 none)), .rich [.osl 2 0 2 n (some (n + 1)), .osl 5 0 2 (n + 40) none, int64 1, nilB, .osl 4 0 2 (0 + 40) none, int64 2, nilB, nilB, int64 3], .flat (tVal.row (List.replicate (n + 1) (markV 1))) m2, .rich [nilB, nilB, int64 2], .flat (tVal.row (List.replicate (0 + 40) (markV 2))) true, .flat (tVal.row (List.replicate (n + 40) (markV 1))) true]⟩, ?_, by simp -implicitDefEqProofs [bookB, nilB]⟩
  simp -implicitDefEqProofs [x54L2, e1, bookB, nilB]
  rw [growN1_inner h n m2 (List.replicate (n + 1) (markV 1)) (n + 40) (tVal.row (List.replicate (n + 40) (markV 1))) hn (by simp -implicitDefEqProofs [bookB, nilB])]
  simp -implicitDefEqProofs [e1, bookB, nilB]

set_option maxHeartbeats 2000000 in
theorem growN2_long (h : code 420 = some x420) (n : Nat) (m2 : Bool) (v2 : List Val) (q0 q1 : Nat) (w0 w1 : List IV) (b j0 : Nat) (mv0 : Bool) (hj0 : j0 < 40) (hb : b ≤ 20000) {s : St}
    (hst : s.tidy [0, 2, 3, 4, 5] = ⟨3, [(0, .optr 0 0), (2, int64 2), (3, .optr 3 0), (4, .osl 4 0 2 (b + j0) none), (5, int64 (j0 : Nat))], [.rich (bookB 3 (.osl 1 0 3 3 none)), .rich [.osl 2 0 2 n (some (n + 1)), .osl 5 0 2 q0 none, int64 1, nilB, .osl 6 0 2 q1 none, int64 2, nilB, nilB, int64 3], .flat (tVal.row (v2)) m2, .rich [nilB, nilB, int64 3], .flat (tVal.row (List.replicate (b + j0) (markV 3))) mv0, .flat w0 true, .flat w1 true]⟩) :
    den code ext (.loop [0, 2, 3, 4, 5] x54L1) s = some (.exit 2, ⟨3, [(0, .optr 0 0), (2, int64 2), (3, .optr 3 0), (4, .osl 4 0 2 (b + 40) none), (5, int64 40), (25, avb false)], [.rich (bookB 3 (.osl 1 0 3 3 none)), .rich [.osl 2 0 2 n (some (n + 1)), .osl 5 0 2 q0 none, int64 1, nilB, .osl 6 0 2 q1 none, int64 2, nilB, nilB, int64 3], .flat (tVal.row (v2)) m2, .rich [nilB, nilB, int64 3], .flat (tVal.row (List.replicate (b + 40) (markV 3))) true, .flat w0 true, .flat w1 true]⟩) := by
  obtain ⟨e, s', h2, _, rfl, rfl⟩ := loop_rule (code := code) (ext := ext) (keep := [0, 2, 3, 4, 5]) (b := x54L1) (fun c s => ∃ j mv, j + c = 40 ∧ (c = 0 → mv = true) ∧ s.tidy [0, 2, 3, 4, 5] = ⟨3, [(0, .optr 0 0), (2, int64 2), (3, .optr 3 0), (4, .osl 4 0 2 (b + j) none), (5, int64 (j : Nat))], [.rich (bookB 3 (.osl 1 0 3 3 none)), .rich [.osl 2 0 2 n (some (n + 1)), .osl 5 0 2 q0 none, int64 1, nilB, .osl 6 0 2 q1 none, int64 2, nilB, nilB, int64 3], .flat (tVal.row (v2)) m2, .rich [nilB, nilB, int64 3], .flat (tVal.row (List.replicate (b + j) (markV 3))) mv, .flat w0 true, .flat w1 true]⟩)
    (fun e s' => e = .exit 2 ∧ s' = ⟨3, [(0, .optr 0 0), (2, int64 2), (3, .optr 3 0), (4, .osl 4 0 2 (b + 40) none), (5, int64 40), (25, avb false)], [.rich (bookB 3 (.osl 1 0 3 3 none)), .rich [.osl 2 0 2 n (some (n + 1)), .osl 5 0 2 q0 none, int64 1, nilB, .osl 6 0 2 q1 none, int64 2, nilB, nilB, int64 3], .flat (tVal.row (v2)) m2, .rich [nilB, nilB, int64 3], .flat (tVal.row (List.replicate (b + 40) (markV 3))) true, .flat w0 true, .flat w1 true]⟩) (fun c s => by
    rintro ⟨j, mv, hj, hmv, hst⟩
    rw [hst]
    by_cases hlt : j < 40
    · have hm := mark_spec (ext := ext) h 3 (by omega) (by omega)
      have e1 : IntKind.wrap .i64 ((j : Int) + 1) = (j : Int) + 1 := wrapI64 (by omega) (by omega)
      have hcut := rep_cut 3 (b + j)
      have hsn : tVal.row (List.replicate (b + j) (markV 3)) ++ [IV.val (.int .u8 0), .val (.int .i64 (-1003))] = tVal.row (List.replicate (b + j + 1) (markV 3)) := rep_snoc 3 (b + j)
      have hbd : (b + j + 1) * 16 ≤ 140737488355328 := by omega
      have hlt' : (j : Int) < 40 := by omega
      refine ⟨.normal, ⟨3, [(0, .optr 0 0), (2, int64 2), (3, .optr 3 0), (4, .osl 4 0 2 (b + j + 1) none), (5, int64 ((j : Int) + 1))], [.rich (bookB 3 (.osl 1 0 3 3 none)), .rich [.osl 2 0 2 n (some (n + 1)), .osl 5 0 2 q0 none, int64 1, nilB, .osl 6 0 2 q1 none, int64 2, nilB, nilB, int64 3], .flat (tVal.row (v2)) m2, .rich [nilB, nilB, int64 3], .flat (tVal.row (List.replicate (b + j + 1) (markV 3))) true, .flat w0 true, .flat w1 true, .flat [.val (.int .u8 0), .val (.int .i64 (-1003))] false]⟩, ?_, .inl ⟨rfl, c - 1, by omega, j + 1, true, by omega, fun _ => rfl, ?_⟩⟩
      · simp -implicitDefEqProofs [x54L1, hlt', hm, hcut, hsn, hbd, e1, bookB, nilB, exAppendX, exAppend, elems]
      · simp -implicitDefEqProofs [bookB, nilB, Nat.add_assoc]
    · have : j = 40 := by omega
      subst this
      have : c = 0 := by omega
      subst this
      obtain rfl := hmv rfl
      refine ⟨.exit 2, _, ?_, .inr ⟨by simp, rfl, rfl⟩⟩
      simp -implicitDefEqProofs [x54L1]) (40 - j0) s ⟨j0, mv0, by omega, by omega, hst⟩
  exact h2

set_option maxHeartbeats 2000000 in
theorem growN2_s0 (h : code 420 = some x420) (n : Nat) (m2 : Bool) (v2 : List Val) (q0 q1 : Nat) (w0 w1 : List IV) (hn : n ≤ 20000) :
    den code ext x54L1 ⟨3, [(0, .optr 0 0), (2, int64 2), (3, .optr 3 0), (4, nilB), (5, int64 0)], [.rich (bookB 3 (.osl 1 0 3 3 none)), .rich [.osl 2 0 2 n (some (n + 1)), .osl 4 0 2 q0 none, int64 1, nilB, .osl 5 0 2 q1 none, int64 2, nilB, nilB, int64 3], .flat (tVal.row (v2)) m2, .rich [nilB, nilB, int64 3], .flat w0 true, .flat w1 true]⟩ = some (.normal, ⟨3, [(0, .optr 0 0), (2, int64 2), (3, .optr 3 0), (4, .osl 7 0 2 1 none), (5, int64 1)], [.rich (bookB 3 (.osl 1 0 3 3 none)), .rich [.osl 2 0 2 n (some (n + 1)), .osl 4 0 2 q0 none, int64 1, nilB, .osl 5 0 2 q1 none, int64 2, nilB, nilB, int64 3], .flat (tVal.row (v2)) m2, .rich [nilB, nilB, int64 3], .flat w0 true, .flat w1 true, .flat [.val (.int .u8 0), .val (.int .i64 (-1003))] false, .flat (tVal.row (List.replicate (1) (markV 3))) false]⟩) := by
  have hm := mark_spec (ext := ext) h 3 (by omega) (by omega)
  have e1 : IntKind.wrap .i64 1 = 1 := by decide
  have hsn : [IV.val (.int .u8 0), .val (.int .i64 (-1003))] = tVal.row (List.replicate 1 (markV 3)) := rep_one 3
  rw [← hsn]; simp -implicitDefEqProofs [x54L1, hm, e1, bookB, nilB, exAppendX, exAppend, elems]

set_option maxHeartbeats 2000000 in
theorem growN2_inner (h : code 420 = some x420) (n : Nat) (m2 : Bool) (v2 : List Val) (q0 q1 : Nat) (w0 w1 : List IV) (hn : n ≤ 20000) {s : St} (hst : s.tidy [0, 2, 3, 4, 5] = ⟨3, [(0, .optr 0 0), (2, int64 2), (3, .optr 3 0), (4, nilB), (5, int64 0)], [.rich (bookB 3 (.osl 1 0 3 3 none)), .rich [.osl 2 0 2 n (some (n + 1)), .osl 4 0 2 q0 none, int64 1, nilB, .osl 5 0 2 q1 none, int64 2, nilB, nilB, int64 3], .flat (tVal.row (v2)) m2, .rich [nilB, nilB, int64 3], .flat w0 true, .flat w1 true]⟩) :
    den code ext (.loop [0, 2, 3, 4, 5] x54L1) s = some (.exit 2, ⟨3, [(0, .optr 0 0), (2, int64 2), (3, .optr 3 0), (4, .osl 4 0 2 (0 + 40) none), (5, int64 40), (25, avb false)], [.rich (bookB 3 (.osl 1 0 3 3 none)), .rich [.osl 2 0 2 n (some (n + 1)), .osl 5 0 2 q0 none, int64 1, nilB, .osl 6 0 2 q1 none, int64 2, nilB, nilB, int64 3], .flat (tVal.row (v2)) m2, .rich [nilB, nilB, int64 3], .flat (tVal.row (List.replicate (0 + 40) (markV 3))) true, .flat w0 true, .flat w1 true]⟩) := by
  rw [den_loop, hst, growN2_s0 h n m2 v2 q0 q1 w0 w1 hn]
  simp only [andThen]
  exact growN2_long h n m2 (v2) q0 q1 w0 w1 0 1 false (by omega) (by omega) (by simp -implicitDefEqProofs [bookB, nilB])

set_option maxHeartbeats 2000000 in
theorem growN2_item (h : code 420 = some x420) (n : Nat) (m2 : Bool) (v2 : List Val) (hn : n ≤ 20000) (hv2 : v2.length = n + 1) :
    ∃ s', den code ext x54L2 ⟨3, [(0, .optr 0 0), (2, int64 2)], [.rich (bookB 3 (.osl 1 0 3 3 none)), .rich [.osl 2 0 2 n (some (n + 1)), .osl 3 0 2 (n + 40) none, int64 1, nilB, .osl 4 0 2 (0 + 40) none, int64 2, nilB, nilB, int64 3], .flat (tVal.row (List.replicate (n + 1) (markV 1))) m2, .flat (tVal.row (List.replicate (n + 40) (markV 1))) true, .flat (tVal.row (List.replicate (0 + 40) (markV 2))) true]⟩ = some (.normal, s') ∧ s'.tidy [0, 2] = ⟨3, [(0, .optr 0 0), (2, int64 3)], [.rich (bookB 3 (.osl 1 0 3 3 none)), .rich [.osl 2 0 2 n (some (n + 1)), .osl 3 0 2 (n + 40) none, int64 1, nilB, .osl 4 0 2 (0 + 40) none, int64 2, nilB, .osl 5 0 2 (0 + 40) none, int64 3], .flat (tVal.row (List.replicate (n + 1) (markV 1))) m2, .flat (tVal.row (List.replicate (n + 40) (markV 1))) true, .flat (tVal.row (List.replicate (0 + 40) (markV 2))) true, .flat (tVal.row (List.replicate (0 + 40) (markV 3))) true]⟩ := by
  have e1 : IntKind.wrap .i64 3 = 3 := by decide
  refine ⟨⟨3, [(0, .optr 0 0), (2, int64 3)], [.rich (bookB 3 (.osl 1 0 3 3 none)), .rich [.osl 2 0 2 n (some (n + 1)), .osl 5 0 2 (n + 40) none, int64 1, nilB, .osl 6 0 2 (0 + 40) none, int64 2, nilB, .osl 4 0 2 (0 + 40) none, int64 3], .flat (tVal.row (List.replicate (n + 1) (markV 1))) m2, .rich [nilB, nilB, int64 3], .flat (tVal.row (List.replicate (0 + 40) (markV 3))) true, .flat (tVal.row (List.replicate (n + 40) (markV 1))) true, .flat (tVal.row (List.replicate (0 + 40) (markV 2))) true]⟩, ?_, by simp -implicitDefEqProofs [bookB, nilB]⟩
  simp -implicitDefEqProofs [x54L2, e1, bookB, nilB]
  rw [growN2_inner h n m2 (List.replicate (n + 1) (markV 1)) (n + 40) (0 + 40) (tVal.row (List.replicate (n + 40) (markV 1))) (tVal.row (List.replicate (0 + 40) (markV 2))) hn (by simp -implicitDefEqProofs [bookB, nilB])]
  simp -implicitDefEqProofs [e1, bookB, nilB]

set_option maxHeartbeats 2000000 in
theorem growN_spec (h : code 420 = some x420) (h54 : code 54 = some x54) (n : Nat) (m2 : Bool) (v2 : List Val) (hn : n ≤ 20000) (hv2 : v2.length = n + 1) :
    callW code ext 54 [.optr 0 0] [.rich (bookB 3 (.osl 1 0 3 3 none)), .rich [.osl 2 0 2 n (some (n + 1)), nilB, int64 1, nilB, nilB, int64 2, nilB, nilB, int64 3], .flat (tVal.row (marks 1 n v2)) m2] = some (.tup [], [.rich (bookB 3 (.osl 1 0 3 3 none)), .rich [.osl 2 0 2 n (some (n + 1)), .osl 3 0 2 (n + 40) none, int64 1, nilB, .osl 4 0 2 (0 + 40) none, int64 2, nilB, .osl 5 0 2 (0 + 40) none, int64 3], .flat (tVal.row (List.replicate (n + 1) (markV 1))) m2, .flat (tVal.row (List.replicate (n + 40) (markV 1))) true, .flat (tVal.row (List.replicate (0 + 40) (markV 2))) true, .flat (tVal.row (List.replicate (0 + 40) (markV 3))) true]) := by
  obtain ⟨s1, a1, b1⟩ := growN0_item (ext := ext) h n m2 v2 hn hv2
  obtain ⟨s2, a2, b2⟩ := growN1_item (ext := ext) h n m2 v2 hn hv2
  obtain ⟨s3, a3, b3⟩ := growN2_item (ext := ext) h n m2 v2 hn hv2
  rw [callW_fun code ext h54]
  simp -implicitDefEqProofs [x54, bookB, nilB]
  rw [den_loop, show (St.mk 3 _ _).tidy [0, 2] = ⟨3, [(0, .optr 0 0), (2, int64 0)], [.rich (bookB 3 (.osl 1 0 3 3 none)), .rich [.osl 2 0 2 n (some (n + 1)), nilB, int64 1, nilB, nilB, int64 2, nilB, nilB, int64 3], .flat (tVal.row (marks 1 n v2)) m2]⟩ by simp -implicitDefEqProofs [bookB, nilB], a1]
  simp only [andThen]
  rw [den_loop, b1, a2]
  simp only [andThen]
  rw [den_loop, b2, a3]
  simp only [andThen]
  rw [den_loop, b3]
  simp -implicitDefEqProofs [x54L2, bookB, nilB]


end
end Go.EX
