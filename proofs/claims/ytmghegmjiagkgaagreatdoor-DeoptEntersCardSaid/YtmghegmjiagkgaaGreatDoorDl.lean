/-
  EX: a Book with three lists of values: its look. Written by a program (genvals.py).
-/
import Derived.Test.YtmghegmjiagkgaaGreatDoorDg
set_option linter.unusedVariables false
set_option linter.unusedSimpArgs false
namespace Go.EX
section
variable {code : Nat → Option XFun} {ext : Calls'}

theorem rep_at (i : Int) {n j : Nat} (h : j < n) : cut (tVal.row (List.replicate n (markV i))) (j * 2) 2 = some [.val (.int .u8 0), .val (.int .i64 (-1000 - i))] :=
  flat_elem (t := tVal) (i := j) (x := markV i) (by simp [h])

set_option maxHeartbeats 4000000 in
theorem lookA0_loop (h : code 400 = some x400) (n m : Nat) (m2 m3 m4 : Bool) (hn : n ≤ 20000) (hm : m ≤ 20000) {s : St}
    (hst : s.tidy [0, 3, 4, 5] = ⟨8, [(0, .optr 0 0), (3, int64 0), (4, .optr 8 0), (5, int64 0)], [.rich (bookB 3 (.osl 1 0 3 3 none)), .rich [.osl 2 0 2 n (some (n + 1)), .osl 3 0 2 (n + 40) none, int64 1, .osl 4 0 2 m (some m), .osl 5 0 2 (m + 40) none, int64 2, .osl 6 0 2 m (some m), .osl 7 0 2 (m + 40) none, int64 3], .flat (tVal.row (List.replicate (n + 1) (markV 1))) m2, .flat (tVal.row (List.replicate (n + 40) (markV 1))) true, .flat (tVal.row (List.replicate (m) (markV 2))) m3, .flat (tVal.row (List.replicate (m + 40) (markV 2))) true, .flat (tVal.row (List.replicate (m) (markV 3))) m4, .flat (tVal.row (List.replicate (m + 40) (markV 3))) true, .rich [.osl 2 0 2 n (some (n + 1)), .osl 3 0 2 (n + 40) none, int64 1]]⟩) :
    den code ext (.loop [0, 3, 4, 5] x84L1) s = some (.exit 2, ⟨8, [(0, .optr 0 0), (3, int64 0), (4, .optr 8 0), (5, int64 (n + 40 : Nat)), (34, avb false)], [.rich (bookB 3 (.osl 1 0 3 3 none)), .rich [.osl 2 0 2 n (some (n + 1)), .osl 3 0 2 (n + 40) none, int64 1, .osl 4 0 2 m (some m), .osl 5 0 2 (m + 40) none, int64 2, .osl 6 0 2 m (some m), .osl 7 0 2 (m + 40) none, int64 3], .flat (tVal.row (List.replicate (n + 1) (markV 1))) m2, .flat (tVal.row (List.replicate (n + 40) (markV 1))) true, .flat (tVal.row (List.replicate (m) (markV 2))) m3, .flat (tVal.row (List.replicate (m + 40) (markV 2))) true, .flat (tVal.row (List.replicate (m) (markV 3))) m4, .flat (tVal.row (List.replicate (m + 40) (markV 3))) true, .rich [.osl 2 0 2 n (some (n + 1)), .osl 3 0 2 (n + 40) none, int64 1]]⟩) := by
  obtain ⟨e, s', h2, _, rfl, rfl⟩ := loop_rule (code := code) (ext := ext) (keep := [0, 3, 4, 5]) (b := x84L1) (fun c s => ∃ j : Nat, j + c = n + 40 ∧ s.tidy [0, 3, 4, 5] = ⟨8, [(0, .optr 0 0), (3, int64 0), (4, .optr 8 0), (5, int64 (j : Nat))], [.rich (bookB 3 (.osl 1 0 3 3 none)), .rich [.osl 2 0 2 n (some (n + 1)), .osl 3 0 2 (n + 40) none, int64 1, .osl 4 0 2 m (some m), .osl 5 0 2 (m + 40) none, int64 2, .osl 6 0 2 m (some m), .osl 7 0 2 (m + 40) none, int64 3], .flat (tVal.row (List.replicate (n + 1) (markV 1))) m2, .flat (tVal.row (List.replicate (n + 40) (markV 1))) true, .flat (tVal.row (List.replicate (m) (markV 2))) m3, .flat (tVal.row (List.replicate (m + 40) (markV 2))) true, .flat (tVal.row (List.replicate (m) (markV 3))) m4, .flat (tVal.row (List.replicate (m + 40) (markV 3))) true, .rich [.osl 2 0 2 n (some (n + 1)), .osl 3 0 2 (n + 40) none, int64 1]]⟩)
    (fun e s' => e = .exit 2 ∧ s' = ⟨8, [(0, .optr 0 0), (3, int64 0), (4, .optr 8 0), (5, int64 (n + 40 : Nat)), (34, avb false)], [.rich (bookB 3 (.osl 1 0 3 3 none)), .rich [.osl 2 0 2 n (some (n + 1)), .osl 3 0 2 (n + 40) none, int64 1, .osl 4 0 2 m (some m), .osl 5 0 2 (m + 40) none, int64 2, .osl 6 0 2 m (some m), .osl 7 0 2 (m + 40) none, int64 3], .flat (tVal.row (List.replicate (n + 1) (markV 1))) m2, .flat (tVal.row (List.replicate (n + 40) (markV 1))) true, .flat (tVal.row (List.replicate (m) (markV 2))) m3, .flat (tVal.row (List.replicate (m + 40) (markV 2))) true, .flat (tVal.row (List.replicate (m) (markV 3))) m4, .flat (tVal.row (List.replicate (m + 40) (markV 3))) true, .rich [.osl 2 0 2 n (some (n + 1)), .osl 3 0 2 (n + 40) none, int64 1]]⟩) (fun c s => by
    rintro ⟨j, hj, hst⟩
    rw [hst]
    have his : callW code ext 400 [.agg [.imm (.val (.int .u8 0)), int64 (-1001)], int64 1] [] = some (avb true, []) := by
      have := is_spec (ext := ext) h (markV 1) 1 (by omega) (by omega)
      simpa [markV] using this
    by_cases hlt : j < n + 40
    · have e1 : IntKind.wrap .i64 ((j : Int) + 1) = (j : Int) + 1 := wrapI64 (by omega) (by omega)
      have hlt' : (j : Int) < (n + 40 : Nat) := by omega
      have hlt2 : (j : Int) < (n : Int) + 40 := by omega
      have hc1 : cut (tVal.row (List.replicate (n + 40) (markV 1))) (j * 2) 2 = some [IV.val (.int .u8 0), .val (.int .i64 (-1001))] := rep_at 1 (by omega)
      by_cases hl : j < n
      · have hc2 : cut (tVal.row (List.replicate (n + 1) (markV 1))) (j * 2) 2 = some [IV.val (.int .u8 0), .val (.int .i64 (-1001))] := rep_at 1 (by omega)
        have hl' : ((j : Int) < (n : Nat)) := by omega
        refine ⟨.normal, ⟨8, [(0, .optr 0 0), (3, int64 0), (4, .optr 8 0), (5, int64 ((j : Int) + 1))], [.rich (bookB 3 (.osl 1 0 3 3 none)), .rich [.osl 2 0 2 n (some (n + 1)), .osl 3 0 2 (n + 40) none, int64 1, .osl 4 0 2 m (some m), .osl 5 0 2 (m + 40) none, int64 2, .osl 6 0 2 m (some m), .osl 7 0 2 (m + 40) none, int64 3], .flat (tVal.row (List.replicate (n + 1) (markV 1))) m2, .flat (tVal.row (List.replicate (n + 40) (markV 1))) true, .flat (tVal.row (List.replicate (m) (markV 2))) m3, .flat (tVal.row (List.replicate (m + 40) (markV 2))) true, .flat (tVal.row (List.replicate (m) (markV 3))) m4, .flat (tVal.row (List.replicate (m + 40) (markV 3))) true, .rich [.osl 2 0 2 n (some (n + 1)), .osl 3 0 2 (n + 40) none, int64 1]]⟩, ?_, .inl ⟨rfl, c - 1, by omega, j + 1, by omega, ?_⟩⟩
        · simp -implicitDefEqProofs [x84L1, hlt', hlt2, his, hc1, hl, hl', hc2, e1, bookB, nilB]
        · simp -implicitDefEqProofs [bookB, nilB]
      · have hl' : ¬ ((j : Int) < (n : Nat)) := by omega
        refine ⟨.normal, ⟨8, [(0, .optr 0 0), (3, int64 0), (4, .optr 8 0), (5, int64 ((j : Int) + 1))], [.rich (bookB 3 (.osl 1 0 3 3 none)), .rich [.osl 2 0 2 n (some (n + 1)), .osl 3 0 2 (n + 40) none, int64 1, .osl 4 0 2 m (some m), .osl 5 0 2 (m + 40) none, int64 2, .osl 6 0 2 m (some m), .osl 7 0 2 (m + 40) none, int64 3], .flat (tVal.row (List.replicate (n + 1) (markV 1))) m2, .flat (tVal.row (List.replicate (n + 40) (markV 1))) true, .flat (tVal.row (List.replicate (m) (markV 2))) m3, .flat (tVal.row (List.replicate (m + 40) (markV 2))) true, .flat (tVal.row (List.replicate (m) (markV 3))) m4, .flat (tVal.row (List.replicate (m + 40) (markV 3))) true, .rich [.osl 2 0 2 n (some (n + 1)), .osl 3 0 2 (n + 40) none, int64 1]]⟩, ?_, .inl ⟨rfl, c - 1, by omega, j + 1, by omega, ?_⟩⟩
        · simp -implicitDefEqProofs [x84L1, hlt', hlt2, his, hc1, hl, hl', e1, bookB, nilB]
        · simp -implicitDefEqProofs [bookB, nilB]
    · have : j = n + 40 := by omega
      subst this
      refine ⟨.exit 2, _, ?_, .inr ⟨by simp, rfl, rfl⟩⟩
      simp -implicitDefEqProofs [x84L1, bookB, nilB]) (n + 40) s ⟨0, by simp, hst⟩
  exact h2

set_option maxHeartbeats 4000000 in
theorem lookA0_item (h : code 400 = some x400) (n m : Nat) (m2 m3 m4 : Bool) (hn : n ≤ 20000) (hm : m ≤ 20000) :
    den code ext x84L2 ⟨8, [(0, .optr 0 0), (3, int64 0)], [.rich (bookB 3 (.osl 1 0 3 3 none)), .rich [.osl 2 0 2 n (some (n + 1)), .osl 3 0 2 (n + 40) none, int64 1, .osl 4 0 2 m (some m), .osl 5 0 2 (m + 40) none, int64 2, .osl 6 0 2 m (some m), .osl 7 0 2 (m + 40) none, int64 3], .flat (tVal.row (List.replicate (n + 1) (markV 1))) m2, .flat (tVal.row (List.replicate (n + 40) (markV 1))) true, .flat (tVal.row (List.replicate (m) (markV 2))) m3, .flat (tVal.row (List.replicate (m + 40) (markV 2))) true, .flat (tVal.row (List.replicate (m) (markV 3))) m4, .flat (tVal.row (List.replicate (m + 40) (markV 3))) true]⟩ = some (.normal, ⟨8, [(0, .optr 0 0), (3, int64 1)], [.rich (bookB 3 (.osl 1 0 3 3 none)), .rich [.osl 2 0 2 n (some (n + 1)), .osl 3 0 2 (n + 40) none, int64 1, .osl 4 0 2 m (some m), .osl 5 0 2 (m + 40) none, int64 2, .osl 6 0 2 m (some m), .osl 7 0 2 (m + 40) none, int64 3], .flat (tVal.row (List.replicate (n + 1) (markV 1))) m2, .flat (tVal.row (List.replicate (n + 40) (markV 1))) true, .flat (tVal.row (List.replicate (m) (markV 2))) m3, .flat (tVal.row (List.replicate (m + 40) (markV 2))) true, .flat (tVal.row (List.replicate (m) (markV 3))) m4, .flat (tVal.row (List.replicate (m + 40) (markV 3))) true, .rich [.osl 2 0 2 n (some (n + 1)), .osl 3 0 2 (n + 40) none, int64 1]]⟩) := by
  have e1 : IntKind.wrap .i64 1 = 1 := by decide
  have e2 : IntKind.wrap .i64 (n + 40) = (n + 40) := wrapI64 (by omega) (by omega)
  simp -implicitDefEqProofs [x84L2, e1, e2, bookB, nilB]
  rw [lookA0_loop h n m m2 m3 m4 hn hm (by simp -implicitDefEqProofs [bookB, nilB])]
  simp -implicitDefEqProofs [e1, bookB, nilB]

set_option maxHeartbeats 4000000 in
theorem lookA1_loop (h : code 400 = some x400) (n m : Nat) (m2 m3 m4 : Bool) (hn : n ≤ 20000) (hm : m ≤ 20000) {s : St}
    (hst : s.tidy [0, 3, 4, 5] = ⟨8, [(0, .optr 0 0), (3, int64 1), (4, .optr 8 0), (5, int64 0)], [.rich (bookB 3 (.osl 1 0 3 3 none)), .rich [.osl 2 0 2 n (some (n + 1)), .osl 3 0 2 (n + 40) none, int64 1, .osl 4 0 2 m (some m), .osl 5 0 2 (m + 40) none, int64 2, .osl 6 0 2 m (some m), .osl 7 0 2 (m + 40) none, int64 3], .flat (tVal.row (List.replicate (n + 1) (markV 1))) m2, .flat (tVal.row (List.replicate (n + 40) (markV 1))) true, .flat (tVal.row (List.replicate (m) (markV 2))) m3, .flat (tVal.row (List.replicate (m + 40) (markV 2))) true, .flat (tVal.row (List.replicate (m) (markV 3))) m4, .flat (tVal.row (List.replicate (m + 40) (markV 3))) true, .rich [.osl 4 0 2 m (some m), .osl 5 0 2 (m + 40) none, int64 2]]⟩) :
    den code ext (.loop [0, 3, 4, 5] x84L1) s = some (.exit 2, ⟨8, [(0, .optr 0 0), (3, int64 1), (4, .optr 8 0), (5, int64 (m + 40 : Nat)), (34, avb false)], [.rich (bookB 3 (.osl 1 0 3 3 none)), .rich [.osl 2 0 2 n (some (n + 1)), .osl 3 0 2 (n + 40) none, int64 1, .osl 4 0 2 m (some m), .osl 5 0 2 (m + 40) none, int64 2, .osl 6 0 2 m (some m), .osl 7 0 2 (m + 40) none, int64 3], .flat (tVal.row (List.replicate (n + 1) (markV 1))) m2, .flat (tVal.row (List.replicate (n + 40) (markV 1))) true, .flat (tVal.row (List.replicate (m) (markV 2))) m3, .flat (tVal.row (List.replicate (m + 40) (markV 2))) true, .flat (tVal.row (List.replicate (m) (markV 3))) m4, .flat (tVal.row (List.replicate (m + 40) (markV 3))) true, .rich [.osl 4 0 2 m (some m), .osl 5 0 2 (m + 40) none, int64 2]]⟩) := by
  obtain ⟨e, s', h2, _, rfl, rfl⟩ := loop_rule (code := code) (ext := ext) (keep := [0, 3, 4, 5]) (b := x84L1) (fun c s => ∃ j : Nat, j + c = m + 40 ∧ s.tidy [0, 3, 4, 5] = ⟨8, [(0, .optr 0 0), (3, int64 1), (4, .optr 8 0), (5, int64 (j : Nat))], [.rich (bookB 3 (.osl 1 0 3 3 none)), .rich [.osl 2 0 2 n (some (n + 1)), .osl 3 0 2 (n + 40) none, int64 1, .osl 4 0 2 m (some m), .osl 5 0 2 (m + 40) none, int64 2, .osl 6 0 2 m (some m), .osl 7 0 2 (m + 40) none, int64 3], .flat (tVal.row (List.replicate (n + 1) (markV 1))) m2, .flat (tVal.row (List.replicate (n + 40) (markV 1))) true, .flat (tVal.row (List.replicate (m) (markV 2))) m3, .flat (tVal.row (List.replicate (m + 40) (markV 2))) true, .flat (tVal.row (List.replicate (m) (markV 3))) m4, .flat (tVal.row (List.replicate (m + 40) (markV 3))) true, .rich [.osl 4 0 2 m (some m), .osl 5 0 2 (m + 40) none, int64 2]]⟩)
    (fun e s' => e = .exit 2 ∧ s' = ⟨8, [(0, .optr 0 0), (3, int64 1), (4, .optr 8 0), (5, int64 (m + 40 : Nat)), (34, avb false)], [.rich (bookB 3 (.osl 1 0 3 3 none)), .rich [.osl 2 0 2 n (some (n + 1)), .osl 3 0 2 (n + 40) none, int64 1, .osl 4 0 2 m (some m), .osl 5 0 2 (m + 40) none, int64 2, .osl 6 0 2 m (some m), .osl 7 0 2 (m + 40) none, int64 3], .flat (tVal.row (List.replicate (n + 1) (markV 1))) m2, .flat (tVal.row (List.replicate (n + 40) (markV 1))) true, .flat (tVal.row (List.replicate (m) (markV 2))) m3, .flat (tVal.row (List.replicate (m + 40) (markV 2))) true, .flat (tVal.row (List.replicate (m) (markV 3))) m4, .flat (tVal.row (List.replicate (m + 40) (markV 3))) true, .rich [.osl 4 0 2 m (some m), .osl 5 0 2 (m + 40) none, int64 2]]⟩) (fun c s => by
    rintro ⟨j, hj, hst⟩
    rw [hst]
    have his : callW code ext 400 [.agg [.imm (.val (.int .u8 0)), int64 (-1002)], int64 2] [] = some (avb true, []) := by
      have := is_spec (ext := ext) h (markV 2) 2 (by omega) (by omega)
      simpa [markV] using this
    by_cases hlt : j < m + 40
    · have e1 : IntKind.wrap .i64 ((j : Int) + 1) = (j : Int) + 1 := wrapI64 (by omega) (by omega)
      have hlt' : (j : Int) < (m + 40 : Nat) := by omega
      have hlt2 : (j : Int) < (m : Int) + 40 := by omega
      have hc1 : cut (tVal.row (List.replicate (m + 40) (markV 2))) (j * 2) 2 = some [IV.val (.int .u8 0), .val (.int .i64 (-1002))] := rep_at 2 (by omega)
      by_cases hl : j < m
      · have hc2 : cut (tVal.row (List.replicate (m) (markV 2))) (j * 2) 2 = some [IV.val (.int .u8 0), .val (.int .i64 (-1002))] := rep_at 2 (by omega)
        have hl' : ((j : Int) < (m : Nat)) := by omega
        refine ⟨.normal, ⟨8, [(0, .optr 0 0), (3, int64 1), (4, .optr 8 0), (5, int64 ((j : Int) + 1))], [.rich (bookB 3 (.osl 1 0 3 3 none)), .rich [.osl 2 0 2 n (some (n + 1)), .osl 3 0 2 (n + 40) none, int64 1, .osl 4 0 2 m (some m), .osl 5 0 2 (m + 40) none, int64 2, .osl 6 0 2 m (some m), .osl 7 0 2 (m + 40) none, int64 3], .flat (tVal.row (List.replicate (n + 1) (markV 1))) m2, .flat (tVal.row (List.replicate (n + 40) (markV 1))) true, .flat (tVal.row (List.replicate (m) (markV 2))) m3, .flat (tVal.row (List.replicate (m + 40) (markV 2))) true, .flat (tVal.row (List.replicate (m) (markV 3))) m4, .flat (tVal.row (List.replicate (m + 40) (markV 3))) true, .rich [.osl 4 0 2 m (some m), .osl 5 0 2 (m + 40) none, int64 2]]⟩, ?_, .inl ⟨rfl, c - 1, by omega, j + 1, by omega, ?_⟩⟩
        · simp -implicitDefEqProofs [x84L1, hlt', hlt2, his, hc1, hl, hl', hc2, e1, bookB, nilB]
        · simp -implicitDefEqProofs [bookB, nilB]
      · have hl' : ¬ ((j : Int) < (m : Nat)) := by omega
        refine ⟨.normal, ⟨8, [(0, .optr 0 0), (3, int64 1), (4, .optr 8 0), (5, int64 ((j : Int) + 1))], [.rich (bookB 3 (.osl 1 0 3 3 none)), .rich [.osl 2 0 2 n (some (n + 1)), .osl 3 0 2 (n + 40) none, int64 1, .osl 4 0 2 m (some m), .osl 5 0 2 (m + 40) none, int64 2, .osl 6 0 2 m (some m), .osl 7 0 2 (m + 40) none, int64 3], .flat (tVal.row (List.replicate (n + 1) (markV 1))) m2, .flat (tVal.row (List.replicate (n + 40) (markV 1))) true, .flat (tVal.row (List.replicate (m) (markV 2))) m3, .flat (tVal.row (List.replicate (m + 40) (markV 2))) true, .flat (tVal.row (List.replicate (m) (markV 3))) m4, .flat (tVal.row (List.replicate (m + 40) (markV 3))) true, .rich [.osl 4 0 2 m (some m), .osl 5 0 2 (m + 40) none, int64 2]]⟩, ?_, .inl ⟨rfl, c - 1, by omega, j + 1, by omega, ?_⟩⟩
        · simp -implicitDefEqProofs [x84L1, hlt', hlt2, his, hc1, hl, hl', e1, bookB, nilB]
        · simp -implicitDefEqProofs [bookB, nilB]
    · have : j = m + 40 := by omega
      subst this
      refine ⟨.exit 2, _, ?_, .inr ⟨by simp, rfl, rfl⟩⟩
      simp -implicitDefEqProofs [x84L1, bookB, nilB]) (m + 40) s ⟨0, by simp, hst⟩
  exact h2

set_option maxHeartbeats 4000000 in
theorem lookA1_item (h : code 400 = some x400) (n m : Nat) (m2 m3 m4 : Bool) (hn : n ≤ 20000) (hm : m ≤ 20000) :
    den code ext x84L2 ⟨8, [(0, .optr 0 0), (3, int64 1)], [.rich (bookB 3 (.osl 1 0 3 3 none)), .rich [.osl 2 0 2 n (some (n + 1)), .osl 3 0 2 (n + 40) none, int64 1, .osl 4 0 2 m (some m), .osl 5 0 2 (m + 40) none, int64 2, .osl 6 0 2 m (some m), .osl 7 0 2 (m + 40) none, int64 3], .flat (tVal.row (List.replicate (n + 1) (markV 1))) m2, .flat (tVal.row (List.replicate (n + 40) (markV 1))) true, .flat (tVal.row (List.replicate (m) (markV 2))) m3, .flat (tVal.row (List.replicate (m + 40) (markV 2))) true, .flat (tVal.row (List.replicate (m) (markV 3))) m4, .flat (tVal.row (List.replicate (m + 40) (markV 3))) true]⟩ = some (.normal, ⟨8, [(0, .optr 0 0), (3, int64 2)], [.rich (bookB 3 (.osl 1 0 3 3 none)), .rich [.osl 2 0 2 n (some (n + 1)), .osl 3 0 2 (n + 40) none, int64 1, .osl 4 0 2 m (some m), .osl 5 0 2 (m + 40) none, int64 2, .osl 6 0 2 m (some m), .osl 7 0 2 (m + 40) none, int64 3], .flat (tVal.row (List.replicate (n + 1) (markV 1))) m2, .flat (tVal.row (List.replicate (n + 40) (markV 1))) true, .flat (tVal.row (List.replicate (m) (markV 2))) m3, .flat (tVal.row (List.replicate (m + 40) (markV 2))) true, .flat (tVal.row (List.replicate (m) (markV 3))) m4, .flat (tVal.row (List.replicate (m + 40) (markV 3))) true, .rich [.osl 4 0 2 m (some m), .osl 5 0 2 (m + 40) none, int64 2]]⟩) := by
  have e1 : IntKind.wrap .i64 2 = 2 := by decide
  have e2 : IntKind.wrap .i64 (m + 40) = (m + 40) := wrapI64 (by omega) (by omega)
  simp -implicitDefEqProofs [x84L2, e1, e2, bookB, nilB]
  rw [lookA1_loop h n m m2 m3 m4 hn hm (by simp -implicitDefEqProofs [bookB, nilB])]
  simp -implicitDefEqProofs [e1, bookB, nilB]

set_option maxHeartbeats 4000000 in
theorem lookA2_loop (h : code 400 = some x400) (n m : Nat) (m2 m3 m4 : Bool) (hn : n ≤ 20000) (hm : m ≤ 20000) {s : St}
    (hst : s.tidy [0, 3, 4, 5] = ⟨8, [(0, .optr 0 0), (3, int64 2), (4, .optr 8 0), (5, int64 0)], [.rich (bookB 3 (.osl 1 0 3 3 none)), .rich [.osl 2 0 2 n (some (n + 1)), .osl 3 0 2 (n + 40) none, int64 1, .osl 4 0 2 m (some m), .osl 5 0 2 (m + 40) none, int64 2, .osl 6 0 2 m (some m), .osl 7 0 2 (m + 40) none, int64 3], .flat (tVal.row (List.replicate (n + 1) (markV 1))) m2, .flat (tVal.row (List.replicate (n + 40) (markV 1))) true, .flat (tVal.row (List.replicate (m) (markV 2))) m3, .flat (tVal.row (List.replicate (m + 40) (markV 2))) true, .flat (tVal.row (List.replicate (m) (markV 3))) m4, .flat (tVal.row (List.replicate (m + 40) (markV 3))) true, .rich [.osl 6 0 2 m (some m), .osl 7 0 2 (m + 40) none, int64 3]]⟩) :
    den code ext (.loop [0, 3, 4, 5] x84L1) s = some (.exit 2, ⟨8, [(0, .optr 0 0), (3, int64 2), (4, .optr 8 0), (5, int64 (m + 40 : Nat)), (34, avb false)], [.rich (bookB 3 (.osl 1 0 3 3 none)), .rich [.osl 2 0 2 n (some (n + 1)), .osl 3 0 2 (n + 40) none, int64 1, .osl 4 0 2 m (some m), .osl 5 0 2 (m + 40) none, int64 2, .osl 6 0 2 m (some m), .osl 7 0 2 (m + 40) none, int64 3], .flat (tVal.row (List.replicate (n + 1) (markV 1))) m2, .flat (tVal.row (List.replicate (n + 40) (markV 1))) true, .flat (tVal.row (List.replicate (m) (markV 2))) m3, .flat (tVal.row (List.replicate (m + 40) (markV 2))) true, .flat (tVal.row (List.replicate (m) (markV 3))) m4, .flat (tVal.row (List.replicate (m + 40) (markV 3))) true, .rich [.osl 6 0 2 m (some m), .osl 7 0 2 (m + 40) none, int64 3]]⟩) := by
  obtain ⟨e, s', h2, _, rfl, rfl⟩ := loop_rule (code := code) (ext := ext) (keep := [0, 3, 4, 5]) (b := x84L1) (fun c s => ∃ j : Nat, j + c = m + 40 ∧ s.tidy [0, 3, 4, 5] = ⟨8, [(0, .optr 0 0), (3, int64 2), (4, .optr 8 0), (5, int64 (j : Nat))], [.rich (bookB 3 (.osl 1 0 3 3 none)), .rich [.osl 2 0 2 n (some (n + 1)), .osl 3 0 2 (n + 40) none, int64 1, .osl 4 0 2 m (some m), .osl 5 0 2 (m + 40) none, int64 2, .osl 6 0 2 m (some m), .osl 7 0 2 (m + 40) none, int64 3], .flat (tVal.row (List.replicate (n + 1) (markV 1))) m2, .flat (tVal.row (List.replicate (n + 40) (markV 1))) true, .flat (tVal.row (List.replicate (m) (markV 2))) m3, .flat (tVal.row (List.replicate (m + 40) (markV 2))) true, .flat (tVal.row (List.replicate (m) (markV 3))) m4, .flat (tVal.row (List.replicate (m + 40) (markV 3))) true, .rich [.osl 6 0 2 m (some m), .osl 7 0 2 (m + 40) none, int64 3]]⟩)
    (fun e s' => e = .exit 2 ∧ s' = ⟨8, [(0, .optr 0 0), (3, int64 2), (4, .optr 8 0), (5, int64 (m + 40 : Nat)), (34, avb false)], [.rich (bookB 3 (.osl 1 0 3 3 none)), .rich [.osl 2 0 2 n (some (n + 1)), .osl 3 0 2 (n + 40) none, int64 1, .osl 4 0 2 m (some m), .osl 5 0 2 (m + 40) none, int64 2, .osl 6 0 2 m (some m), .osl 7 0 2 (m + 40) none, int64 3], .flat (tVal.row (List.replicate (n + 1) (markV 1))) m2, .flat (tVal.row (List.replicate (n + 40) (markV 1))) true, .flat (tVal.row (List.replicate (m) (markV 2))) m3, .flat (tVal.row (List.replicate (m + 40) (markV 2))) true, .flat (tVal.row (List.replicate (m) (markV 3))) m4, .flat (tVal.row (List.replicate (m + 40) (markV 3))) true, .rich [.osl 6 0 2 m (some m), .osl 7 0 2 (m + 40) none, int64 3]]⟩) (fun c s => by
    rintro ⟨j, hj, hst⟩
    rw [hst]
    have his : callW code ext 400 [.agg [.imm (.val (.int .u8 0)), int64 (-1003)], int64 3] [] = some (avb true, []) := by
      have := is_spec (ext := ext) h (markV 3) 3 (by omega) (by omega)
      simpa [markV] using this
    by_cases hlt : j < m + 40
    · have e1 : IntKind.wrap .i64 ((j : Int) + 1) = (j : Int) + 1 := wrapI64 (by omega) (by omega)
      have hlt' : (j : Int) < (m + 40 : Nat) := by omega
      have hlt2 : (j : Int) < (m : Int) + 40 := by omega
      have hc1 : cut (tVal.row (List.replicate (m + 40) (markV 3))) (j * 2) 2 = some [IV.val (.int .u8 0), .val (.int .i64 (-1003))] := rep_at 3 (by omega)
      by_cases hl : j < m
      · have hc2 : cut (tVal.row (List.replicate (m) (markV 3))) (j * 2) 2 = some [IV.val (.int .u8 0), .val (.int .i64 (-1003))] := rep_at 3 (by omega)
        have hl' : ((j : Int) < (m : Nat)) := by omega
        refine ⟨.normal, ⟨8, [(0, .optr 0 0), (3, int64 2), (4, .optr 8 0), (5, int64 ((j : Int) + 1))], [.rich (bookB 3 (.osl 1 0 3 3 none)), .rich [.osl 2 0 2 n (some (n + 1)), .osl 3 0 2 (n + 40) none, int64 1, .osl 4 0 2 m (some m), .osl 5 0 2 (m + 40) none, int64 2, .osl 6 0 2 m (some m), .osl 7 0 2 (m + 40) none, int64 3], .flat (tVal.row (List.replicate (n + 1) (markV 1))) m2, .flat (tVal.row (List.replicate (n + 40) (markV 1))) true, .flat (tVal.row (List.replicate (m) (markV 2))) m3, .flat (tVal.row (List.replicate (m + 40) (markV 2))) true, .flat (tVal.row (List.replicate (m) (markV 3))) m4, .flat (tVal.row (List.replicate (m + 40) (markV 3))) true, .rich [.osl 6 0 2 m (some m), .osl 7 0 2 (m + 40) none, int64 3]]⟩, ?_, .inl ⟨rfl, c - 1, by omega, j + 1, by omega, ?_⟩⟩
        · simp -implicitDefEqProofs [x84L1, hlt', hlt2, his, hc1, hl, hl', hc2, e1, bookB, nilB]
        · simp -implicitDefEqProofs [bookB, nilB]
      · have hl' : ¬ ((j : Int) < (m : Nat)) := by omega
        refine ⟨.normal, ⟨8, [(0, .optr 0 0), (3, int64 2), (4, .optr 8 0), (5, int64 ((j : Int) + 1))], [.rich (bookB 3 (.osl 1 0 3 3 none)), .rich [.osl 2 0 2 n (some (n + 1)), .osl 3 0 2 (n + 40) none, int64 1, .osl 4 0 2 m (some m), .osl 5 0 2 (m + 40) none, int64 2, .osl 6 0 2 m (some m), .osl 7 0 2 (m + 40) none, int64 3], .flat (tVal.row (List.replicate (n + 1) (markV 1))) m2, .flat (tVal.row (List.replicate (n + 40) (markV 1))) true, .flat (tVal.row (List.replicate (m) (markV 2))) m3, .flat (tVal.row (List.replicate (m + 40) (markV 2))) true, .flat (tVal.row (List.replicate (m) (markV 3))) m4, .flat (tVal.row (List.replicate (m + 40) (markV 3))) true, .rich [.osl 6 0 2 m (some m), .osl 7 0 2 (m + 40) none, int64 3]]⟩, ?_, .inl ⟨rfl, c - 1, by omega, j + 1, by omega, ?_⟩⟩
        · simp -implicitDefEqProofs [x84L1, hlt', hlt2, his, hc1, hl, hl', e1, bookB, nilB]
        · simp -implicitDefEqProofs [bookB, nilB]
    · have : j = m + 40 := by omega
      subst this
      refine ⟨.exit 2, _, ?_, .inr ⟨by simp, rfl, rfl⟩⟩
      simp -implicitDefEqProofs [x84L1, bookB, nilB]) (m + 40) s ⟨0, by simp, hst⟩
  exact h2

set_option maxHeartbeats 4000000 in
theorem lookA2_item (h : code 400 = some x400) (n m : Nat) (m2 m3 m4 : Bool) (hn : n ≤ 20000) (hm : m ≤ 20000) :
    den code ext x84L2 ⟨8, [(0, .optr 0 0), (3, int64 2)], [.rich (bookB 3 (.osl 1 0 3 3 none)), .rich [.osl 2 0 2 n (some (n + 1)), .osl 3 0 2 (n + 40) none, int64 1, .osl 4 0 2 m (some m), .osl 5 0 2 (m + 40) none, int64 2, .osl 6 0 2 m (some m), .osl 7 0 2 (m + 40) none, int64 3], .flat (tVal.row (List.replicate (n + 1) (markV 1))) m2, .flat (tVal.row (List.replicate (n + 40) (markV 1))) true, .flat (tVal.row (List.replicate (m) (markV 2))) m3, .flat (tVal.row (List.replicate (m + 40) (markV 2))) true, .flat (tVal.row (List.replicate (m) (markV 3))) m4, .flat (tVal.row (List.replicate (m + 40) (markV 3))) true]⟩ = some (.normal, ⟨8, [(0, .optr 0 0), (3, int64 3)], [.rich (bookB 3 (.osl 1 0 3 3 none)), .rich [.osl 2 0 2 n (some (n + 1)), .osl 3 0 2 (n + 40) none, int64 1, .osl 4 0 2 m (some m), .osl 5 0 2 (m + 40) none, int64 2, .osl 6 0 2 m (some m), .osl 7 0 2 (m + 40) none, int64 3], .flat (tVal.row (List.replicate (n + 1) (markV 1))) m2, .flat (tVal.row (List.replicate (n + 40) (markV 1))) true, .flat (tVal.row (List.replicate (m) (markV 2))) m3, .flat (tVal.row (List.replicate (m + 40) (markV 2))) true, .flat (tVal.row (List.replicate (m) (markV 3))) m4, .flat (tVal.row (List.replicate (m + 40) (markV 3))) true, .rich [.osl 6 0 2 m (some m), .osl 7 0 2 (m + 40) none, int64 3]]⟩) := by
  have e1 : IntKind.wrap .i64 3 = 3 := by decide
  have e2 : IntKind.wrap .i64 (m + 40) = (m + 40) := wrapI64 (by omega) (by omega)
  simp -implicitDefEqProofs [x84L2, e1, e2, bookB, nilB]
  rw [lookA2_loop h n m m2 m3 m4 hn hm (by simp -implicitDefEqProofs [bookB, nilB])]
  simp -implicitDefEqProofs [e1, bookB, nilB]

set_option maxHeartbeats 2000000 in
theorem lookA_spec (h : code 400 = some x400) (h84 : code 84 = some x84) (n m : Nat) (m2 m3 m4 : Bool) (hn : n ≤ 20000) (hm : m ≤ 20000) :
    callW code ext 84 [.optr 0 0] [.rich (bookB 3 (.osl 1 0 3 3 none)), .rich [.osl 2 0 2 n (some (n + 1)), .osl 3 0 2 (n + 40) none, int64 1, .osl 4 0 2 m (some m), .osl 5 0 2 (m + 40) none, int64 2, .osl 6 0 2 m (some m), .osl 7 0 2 (m + 40) none, int64 3], .flat (tVal.row (List.replicate (n + 1) (markV 1))) m2, .flat (tVal.row (List.replicate (n + 40) (markV 1))) true, .flat (tVal.row (List.replicate (m) (markV 2))) m3, .flat (tVal.row (List.replicate (m + 40) (markV 2))) true, .flat (tVal.row (List.replicate (m) (markV 3))) m4, .flat (tVal.row (List.replicate (m + 40) (markV 3))) true] = some (avb true, [.rich (bookB 3 (.osl 1 0 3 3 none)), .rich [.osl 2 0 2 n (some (n + 1)), .osl 3 0 2 (n + 40) none, int64 1, .osl 4 0 2 m (some m), .osl 5 0 2 (m + 40) none, int64 2, .osl 6 0 2 m (some m), .osl 7 0 2 (m + 40) none, int64 3], .flat (tVal.row (List.replicate (n + 1) (markV 1))) m2, .flat (tVal.row (List.replicate (n + 40) (markV 1))) true, .flat (tVal.row (List.replicate (m) (markV 2))) m3, .flat (tVal.row (List.replicate (m + 40) (markV 2))) true, .flat (tVal.row (List.replicate (m) (markV 3))) m4, .flat (tVal.row (List.replicate (m + 40) (markV 3))) true]) := by
  have i0 := lookA0_item (ext := ext) h n m m2 m3 m4 hn hm
  have i1 := lookA1_item (ext := ext) h n m m2 m3 m4 hn hm
  have i2 := lookA2_item (ext := ext) h n m m2 m3 m4 hn hm
  rw [callW_fun code ext h84]
  simp -implicitDefEqProofs [x84, bookB, nilB]
  rw [den_loop, show (St.mk 8 _ _).tidy [0, 3] = ⟨8, [(0, .optr 0 0), (3, int64 0)], [.rich (bookB 3 (.osl 1 0 3 3 none)), .rich [.osl 2 0 2 n (some (n + 1)), .osl 3 0 2 (n + 40) none, int64 1, .osl 4 0 2 m (some m), .osl 5 0 2 (m + 40) none, int64 2, .osl 6 0 2 m (some m), .osl 7 0 2 (m + 40) none, int64 3], .flat (tVal.row (List.replicate (n + 1) (markV 1))) m2, .flat (tVal.row (List.replicate (n + 40) (markV 1))) true, .flat (tVal.row (List.replicate (m) (markV 2))) m3, .flat (tVal.row (List.replicate (m + 40) (markV 2))) true, .flat (tVal.row (List.replicate (m) (markV 3))) m4, .flat (tVal.row (List.replicate (m + 40) (markV 3))) true]⟩ by simp -implicitDefEqProofs [bookB, nilB], i0]
  simp only [andThen]
  rw [den_loop, show (St.mk 8 _ _).tidy [0, 3] = ⟨8, [(0, .optr 0 0), (3, int64 1)], [.rich (bookB 3 (.osl 1 0 3 3 none)), .rich [.osl 2 0 2 n (some (n + 1)), .osl 3 0 2 (n + 40) none, int64 1, .osl 4 0 2 m (some m), .osl 5 0 2 (m + 40) none, int64 2, .osl 6 0 2 m (some m), .osl 7 0 2 (m + 40) none, int64 3], .flat (tVal.row (List.replicate (n + 1) (markV 1))) m2, .flat (tVal.row (List.replicate (n + 40) (markV 1))) true, .flat (tVal.row (List.replicate (m) (markV 2))) m3, .flat (tVal.row (List.replicate (m + 40) (markV 2))) true, .flat (tVal.row (List.replicate (m) (markV 3))) m4, .flat (tVal.row (List.replicate (m + 40) (markV 3))) true]⟩ by simp -implicitDefEqProofs [bookB, nilB], i1]
  simp only [andThen]
  rw [den_loop, show (St.mk 8 _ _).tidy [0, 3] = ⟨8, [(0, .optr 0 0), (3, int64 2)], [.rich (bookB 3 (.osl 1 0 3 3 none)), .rich [.osl 2 0 2 n (some (n + 1)), .osl 3 0 2 (n + 40) none, int64 1, .osl 4 0 2 m (some m), .osl 5 0 2 (m + 40) none, int64 2, .osl 6 0 2 m (some m), .osl 7 0 2 (m + 40) none, int64 3], .flat (tVal.row (List.replicate (n + 1) (markV 1))) m2, .flat (tVal.row (List.replicate (n + 40) (markV 1))) true, .flat (tVal.row (List.replicate (m) (markV 2))) m3, .flat (tVal.row (List.replicate (m + 40) (markV 2))) true, .flat (tVal.row (List.replicate (m) (markV 3))) m4, .flat (tVal.row (List.replicate (m + 40) (markV 3))) true]⟩ by simp -implicitDefEqProofs [bookB, nilB], i2]
  simp only [andThen]
  rw [den_loop, show (St.mk 8 _ _).tidy [0, 3] = ⟨8, [(0, .optr 0 0), (3, int64 3)], [.rich (bookB 3 (.osl 1 0 3 3 none)), .rich [.osl 2 0 2 n (some (n + 1)), .osl 3 0 2 (n + 40) none, int64 1, .osl 4 0 2 m (some m), .osl 5 0 2 (m + 40) none, int64 2, .osl 6 0 2 m (some m), .osl 7 0 2 (m + 40) none, int64 3], .flat (tVal.row (List.replicate (n + 1) (markV 1))) m2, .flat (tVal.row (List.replicate (n + 40) (markV 1))) true, .flat (tVal.row (List.replicate (m) (markV 2))) m3, .flat (tVal.row (List.replicate (m + 40) (markV 2))) true, .flat (tVal.row (List.replicate (m) (markV 3))) m4, .flat (tVal.row (List.replicate (m + 40) (markV 3))) true]⟩ by simp -implicitDefEqProofs [bookB, nilB]]
  simp -implicitDefEqProofs [x84L2, bookB, nilB]

set_option maxHeartbeats 4000000 in
theorem lookN0_loop (h : code 400 = some x400) (n : Nat) (m2 : Bool) (hn : n ≤ 20000) (q : Nat) (hq : q = 40) {s : St}
    (hst : s.tidy [0, 3, 4, 5] = ⟨6, [(0, .optr 0 0), (3, int64 0), (4, .optr 6 0), (5, int64 0)], [.rich (bookB 3 (.osl 1 0 3 3 none)), .rich [.osl 2 0 2 n (some (n + 1)), .osl 3 0 2 (n + 40) none, int64 1, nilB, .osl 4 0 2 q none, int64 2, nilB, .osl 5 0 2 q none, int64 3], .flat (tVal.row (List.replicate (n + 1) (markV 1))) m2, .flat (tVal.row (List.replicate (n + 40) (markV 1))) true, .flat (tVal.row (List.replicate (q) (markV 2))) true, .flat (tVal.row (List.replicate (q) (markV 3))) true, .rich [.osl 2 0 2 n (some (n + 1)), .osl 3 0 2 (n + 40) none, int64 1]]⟩) :
    den code ext (.loop [0, 3, 4, 5] x84L1) s = some (.exit 2, ⟨6, [(0, .optr 0 0), (3, int64 0), (4, .optr 6 0), (5, int64 (n + 40 : Nat)), (34, avb false)], [.rich (bookB 3 (.osl 1 0 3 3 none)), .rich [.osl 2 0 2 n (some (n + 1)), .osl 3 0 2 (n + 40) none, int64 1, nilB, .osl 4 0 2 q none, int64 2, nilB, .osl 5 0 2 q none, int64 3], .flat (tVal.row (List.replicate (n + 1) (markV 1))) m2, .flat (tVal.row (List.replicate (n + 40) (markV 1))) true, .flat (tVal.row (List.replicate (q) (markV 2))) true, .flat (tVal.row (List.replicate (q) (markV 3))) true, .rich [.osl 2 0 2 n (some (n + 1)), .osl 3 0 2 (n + 40) none, int64 1]]⟩) := by
  obtain ⟨e, s', h2, _, rfl, rfl⟩ := loop_rule (code := code) (ext := ext) (keep := [0, 3, 4, 5]) (b := x84L1) (fun c s => ∃ j : Nat, j + c = n + 40 ∧ s.tidy [0, 3, 4, 5] = ⟨6, [(0, .optr 0 0), (3, int64 0), (4, .optr 6 0), (5, int64 (j : Nat))], [.rich (bookB 3 (.osl 1 0 3 3 none)), .rich [.osl 2 0 2 n (some (n + 1)), .osl 3 0 2 (n + 40) none, int64 1, nilB, .osl 4 0 2 q none, int64 2, nilB, .osl 5 0 2 q none, int64 3], .flat (tVal.row (List.replicate (n + 1) (markV 1))) m2, .flat (tVal.row (List.replicate (n + 40) (markV 1))) true, .flat (tVal.row (List.replicate (q) (markV 2))) true, .flat (tVal.row (List.replicate (q) (markV 3))) true, .rich [.osl 2 0 2 n (some (n + 1)), .osl 3 0 2 (n + 40) none, int64 1]]⟩)
    (fun e s' => e = .exit 2 ∧ s' = ⟨6, [(0, .optr 0 0), (3, int64 0), (4, .optr 6 0), (5, int64 (n + 40 : Nat)), (34, avb false)], [.rich (bookB 3 (.osl 1 0 3 3 none)), .rich [.osl 2 0 2 n (some (n + 1)), .osl 3 0 2 (n + 40) none, int64 1, nilB, .osl 4 0 2 q none, int64 2, nilB, .osl 5 0 2 q none, int64 3], .flat (tVal.row (List.replicate (n + 1) (markV 1))) m2, .flat (tVal.row (List.replicate (n + 40) (markV 1))) true, .flat (tVal.row (List.replicate (q) (markV 2))) true, .flat (tVal.row (List.replicate (q) (markV 3))) true, .rich [.osl 2 0 2 n (some (n + 1)), .osl 3 0 2 (n + 40) none, int64 1]]⟩) (fun c s => by
    rintro ⟨j, hj, hst⟩
    rw [hst]
    have his : callW code ext 400 [.agg [.imm (.val (.int .u8 0)), int64 (-1001)], int64 1] [] = some (avb true, []) := by
      have := is_spec (ext := ext) h (markV 1) 1 (by omega) (by omega)
      simpa [markV] using this
    by_cases hlt : j < n + 40
    · have e1 : IntKind.wrap .i64 ((j : Int) + 1) = (j : Int) + 1 := wrapI64 (by omega) (by omega)
      have hlt' : (j : Int) < (n + 40 : Nat) := by omega
      have hlt2 : (j : Int) < (n : Int) + 40 := by omega
      have hc1 : cut (tVal.row (List.replicate (n + 40) (markV 1))) (j * 2) 2 = some [IV.val (.int .u8 0), .val (.int .i64 (-1001))] := rep_at 1 (by omega)
      by_cases hl : j < n
      · have hc2 : cut (tVal.row (List.replicate (n + 1) (markV 1))) (j * 2) 2 = some [IV.val (.int .u8 0), .val (.int .i64 (-1001))] := rep_at 1 (by omega)
        have hl' : ((j : Int) < (n : Nat)) := by omega
        refine ⟨.normal, ⟨6, [(0, .optr 0 0), (3, int64 0), (4, .optr 6 0), (5, int64 ((j : Int) + 1))], [.rich (bookB 3 (.osl 1 0 3 3 none)), .rich [.osl 2 0 2 n (some (n + 1)), .osl 3 0 2 (n + 40) none, int64 1, nilB, .osl 4 0 2 q none, int64 2, nilB, .osl 5 0 2 q none, int64 3], .flat (tVal.row (List.replicate (n + 1) (markV 1))) m2, .flat (tVal.row (List.replicate (n + 40) (markV 1))) true, .flat (tVal.row (List.replicate (q) (markV 2))) true, .flat (tVal.row (List.replicate (q) (markV 3))) true, .rich [.osl 2 0 2 n (some (n + 1)), .osl 3 0 2 (n + 40) none, int64 1]]⟩, ?_, .inl ⟨rfl, c - 1, by omega, j + 1, by omega, ?_⟩⟩
        · simp -implicitDefEqProofs [x84L1, hlt', hlt2, his, hc1, hl, hl', hc2, e1, bookB, nilB]
        · simp -implicitDefEqProofs [bookB, nilB]
      · have hl' : ¬ ((j : Int) < (n : Nat)) := by omega
        refine ⟨.normal, ⟨6, [(0, .optr 0 0), (3, int64 0), (4, .optr 6 0), (5, int64 ((j : Int) + 1))], [.rich (bookB 3 (.osl 1 0 3 3 none)), .rich [.osl 2 0 2 n (some (n + 1)), .osl 3 0 2 (n + 40) none, int64 1, nilB, .osl 4 0 2 q none, int64 2, nilB, .osl 5 0 2 q none, int64 3], .flat (tVal.row (List.replicate (n + 1) (markV 1))) m2, .flat (tVal.row (List.replicate (n + 40) (markV 1))) true, .flat (tVal.row (List.replicate (q) (markV 2))) true, .flat (tVal.row (List.replicate (q) (markV 3))) true, .rich [.osl 2 0 2 n (some (n + 1)), .osl 3 0 2 (n + 40) none, int64 1]]⟩, ?_, .inl ⟨rfl, c - 1, by omega, j + 1, by omega, ?_⟩⟩
        · simp -implicitDefEqProofs [x84L1, hlt', hlt2, his, hc1, hl, hl', e1, bookB, nilB]
        · simp -implicitDefEqProofs [bookB, nilB]
    · have : j = n + 40 := by omega
      subst this
      refine ⟨.exit 2, _, ?_, .inr ⟨by simp, rfl, rfl⟩⟩
      simp -implicitDefEqProofs [x84L1, bookB, nilB]) (n + 40) s ⟨0, by simp, hst⟩
  exact h2

set_option maxHeartbeats 4000000 in
theorem lookN0_item (h : code 400 = some x400) (n : Nat) (m2 : Bool) (hn : n ≤ 20000) (q : Nat) (hq : q = 40) :
    den code ext x84L2 ⟨6, [(0, .optr 0 0), (3, int64 0)], [.rich (bookB 3 (.osl 1 0 3 3 none)), .rich [.osl 2 0 2 n (some (n + 1)), .osl 3 0 2 (n + 40) none, int64 1, nilB, .osl 4 0 2 q none, int64 2, nilB, .osl 5 0 2 q none, int64 3], .flat (tVal.row (List.replicate (n + 1) (markV 1))) m2, .flat (tVal.row (List.replicate (n + 40) (markV 1))) true, .flat (tVal.row (List.replicate (q) (markV 2))) true, .flat (tVal.row (List.replicate (q) (markV 3))) true]⟩ = some (.normal, ⟨6, [(0, .optr 0 0), (3, int64 1)], [.rich (bookB 3 (.osl 1 0 3 3 none)), .rich [.osl 2 0 2 n (some (n + 1)), .osl 3 0 2 (n + 40) none, int64 1, nilB, .osl 4 0 2 q none, int64 2, nilB, .osl 5 0 2 q none, int64 3], .flat (tVal.row (List.replicate (n + 1) (markV 1))) m2, .flat (tVal.row (List.replicate (n + 40) (markV 1))) true, .flat (tVal.row (List.replicate (q) (markV 2))) true, .flat (tVal.row (List.replicate (q) (markV 3))) true, .rich [.osl 2 0 2 n (some (n + 1)), .osl 3 0 2 (n + 40) none, int64 1]]⟩) := by
  have e1 : IntKind.wrap .i64 1 = 1 := by decide
  have e2 : IntKind.wrap .i64 (n + 40) = (n + 40) := wrapI64 (by omega) (by omega)
  simp -implicitDefEqProofs [x84L2, e1, e2, bookB, nilB]
  rw [lookN0_loop h n m2 hn q hq (by simp -implicitDefEqProofs [bookB, nilB])]
  simp -implicitDefEqProofs [e1, bookB, nilB]

set_option maxHeartbeats 4000000 in
theorem lookN1_loop (h : code 400 = some x400) (n : Nat) (m2 : Bool) (hn : n ≤ 20000) (q : Nat) (hq : q = 40) {s : St}
    (hst : s.tidy [0, 3, 4, 5] = ⟨6, [(0, .optr 0 0), (3, int64 1), (4, .optr 6 0), (5, int64 0)], [.rich (bookB 3 (.osl 1 0 3 3 none)), .rich [.osl 2 0 2 n (some (n + 1)), .osl 3 0 2 (n + 40) none, int64 1, nilB, .osl 4 0 2 q none, int64 2, nilB, .osl 5 0 2 q none, int64 3], .flat (tVal.row (List.replicate (n + 1) (markV 1))) m2, .flat (tVal.row (List.replicate (n + 40) (markV 1))) true, .flat (tVal.row (List.replicate (q) (markV 2))) true, .flat (tVal.row (List.replicate (q) (markV 3))) true, .rich [nilB, .osl 4 0 2 q none, int64 2]]⟩) :
    den code ext (.loop [0, 3, 4, 5] x84L1) s = some (.exit 2, ⟨6, [(0, .optr 0 0), (3, int64 1), (4, .optr 6 0), (5, int64 (q : Nat)), (34, avb false)], [.rich (bookB 3 (.osl 1 0 3 3 none)), .rich [.osl 2 0 2 n (some (n + 1)), .osl 3 0 2 (n + 40) none, int64 1, nilB, .osl 4 0 2 q none, int64 2, nilB, .osl 5 0 2 q none, int64 3], .flat (tVal.row (List.replicate (n + 1) (markV 1))) m2, .flat (tVal.row (List.replicate (n + 40) (markV 1))) true, .flat (tVal.row (List.replicate (q) (markV 2))) true, .flat (tVal.row (List.replicate (q) (markV 3))) true, .rich [nilB, .osl 4 0 2 q none, int64 2]]⟩) := by
  obtain ⟨e, s', h2, _, rfl, rfl⟩ := loop_rule (code := code) (ext := ext) (keep := [0, 3, 4, 5]) (b := x84L1) (fun c s => ∃ j : Nat, j + c = q ∧ s.tidy [0, 3, 4, 5] = ⟨6, [(0, .optr 0 0), (3, int64 1), (4, .optr 6 0), (5, int64 (j : Nat))], [.rich (bookB 3 (.osl 1 0 3 3 none)), .rich [.osl 2 0 2 n (some (n + 1)), .osl 3 0 2 (n + 40) none, int64 1, nilB, .osl 4 0 2 q none, int64 2, nilB, .osl 5 0 2 q none, int64 3], .flat (tVal.row (List.replicate (n + 1) (markV 1))) m2, .flat (tVal.row (List.replicate (n + 40) (markV 1))) true, .flat (tVal.row (List.replicate (q) (markV 2))) true, .flat (tVal.row (List.replicate (q) (markV 3))) true, .rich [nilB, .osl 4 0 2 q none, int64 2]]⟩)
    (fun e s' => e = .exit 2 ∧ s' = ⟨6, [(0, .optr 0 0), (3, int64 1), (4, .optr 6 0), (5, int64 (q : Nat)), (34, avb false)], [.rich (bookB 3 (.osl 1 0 3 3 none)), .rich [.osl 2 0 2 n (some (n + 1)), .osl 3 0 2 (n + 40) none, int64 1, nilB, .osl 4 0 2 q none, int64 2, nilB, .osl 5 0 2 q none, int64 3], .flat (tVal.row (List.replicate (n + 1) (markV 1))) m2, .flat (tVal.row (List.replicate (n + 40) (markV 1))) true, .flat (tVal.row (List.replicate (q) (markV 2))) true, .flat (tVal.row (List.replicate (q) (markV 3))) true, .rich [nilB, .osl 4 0 2 q none, int64 2]]⟩) (fun c s => by
    rintro ⟨j, hj, hst⟩
    rw [hst]
    have his : callW code ext 400 [.agg [.imm (.val (.int .u8 0)), int64 (-1002)], int64 2] [] = some (avb true, []) := by
      have := is_spec (ext := ext) h (markV 2) 2 (by omega) (by omega)
      simpa [markV] using this
    by_cases hlt : j < q
    · have e1 : IntKind.wrap .i64 ((j : Int) + 1) = (j : Int) + 1 := wrapI64 (by omega) (by omega)
      have hlt' : (j : Int) < (q : Nat) := by omega
      have hlt2 : (j : Int) < (0 : Int) + 40 := by omega
      clear hlt2; have hlt2 := hlt'
      have hc1 : cut (tVal.row (List.replicate (q) (markV 2))) (j * 2) 2 = some [IV.val (.int .u8 0), .val (.int .i64 (-1002))] := rep_at 2 (by omega)
      have hl' : ¬ ((j : Int) < 0) := by omega
      refine ⟨.normal, ⟨6, [(0, .optr 0 0), (3, int64 1), (4, .optr 6 0), (5, int64 ((j : Int) + 1))], [.rich (bookB 3 (.osl 1 0 3 3 none)), .rich [.osl 2 0 2 n (some (n + 1)), .osl 3 0 2 (n + 40) none, int64 1, nilB, .osl 4 0 2 q none, int64 2, nilB, .osl 5 0 2 q none, int64 3], .flat (tVal.row (List.replicate (n + 1) (markV 1))) m2, .flat (tVal.row (List.replicate (n + 40) (markV 1))) true, .flat (tVal.row (List.replicate (q) (markV 2))) true, .flat (tVal.row (List.replicate (q) (markV 3))) true, .rich [nilB, .osl 4 0 2 q none, int64 2]]⟩, ?_, .inl ⟨rfl, c - 1, by omega, j + 1, by omega, ?_⟩⟩
      · simp -implicitDefEqProofs [x84L1, hlt', hlt2, his, hc1, hl', e1, bookB, nilB]
      · simp -implicitDefEqProofs [bookB, nilB]
    · have : j = q := by omega
      subst this
      refine ⟨.exit 2, _, ?_, .inr ⟨by simp, rfl, rfl⟩⟩
      simp -implicitDefEqProofs [x84L1, bookB, nilB]) (q) s ⟨0, by simp, hst⟩
  exact h2

set_option maxHeartbeats 4000000 in
theorem lookN1_item (h : code 400 = some x400) (n : Nat) (m2 : Bool) (hn : n ≤ 20000) (q : Nat) (hq : q = 40) :
    den code ext x84L2 ⟨6, [(0, .optr 0 0), (3, int64 1)], [.rich (bookB 3 (.osl 1 0 3 3 none)), .rich [.osl 2 0 2 n (some (n + 1)), .osl 3 0 2 (n + 40) none, int64 1, nilB, .osl 4 0 2 q none, int64 2, nilB, .osl 5 0 2 q none, int64 3], .flat (tVal.row (List.replicate (n + 1) (markV 1))) m2, .flat (tVal.row (List.replicate (n + 40) (markV 1))) true, .flat (tVal.row (List.replicate (q) (markV 2))) true, .flat (tVal.row (List.replicate (q) (markV 3))) true]⟩ = some (.normal, ⟨6, [(0, .optr 0 0), (3, int64 2)], [.rich (bookB 3 (.osl 1 0 3 3 none)), .rich [.osl 2 0 2 n (some (n + 1)), .osl 3 0 2 (n + 40) none, int64 1, nilB, .osl 4 0 2 q none, int64 2, nilB, .osl 5 0 2 q none, int64 3], .flat (tVal.row (List.replicate (n + 1) (markV 1))) m2, .flat (tVal.row (List.replicate (n + 40) (markV 1))) true, .flat (tVal.row (List.replicate (q) (markV 2))) true, .flat (tVal.row (List.replicate (q) (markV 3))) true, .rich [nilB, .osl 4 0 2 q none, int64 2]]⟩) := by
  have e1 : IntKind.wrap .i64 2 = 2 := by decide
  have e2 : IntKind.wrap .i64 40 = 40 := wrapI64 (by omega) (by omega)
  have hqi : (q : Int) = 40 := by omega
  simp -implicitDefEqProofs [x84L2, e1, e2, hqi, bookB, nilB]
  rw [lookN1_loop h n m2 hn q hq (by simp -implicitDefEqProofs [bookB, nilB])]
  simp -implicitDefEqProofs [e1, bookB, nilB]

set_option maxHeartbeats 4000000 in
theorem lookN2_loop (h : code 400 = some x400) (n : Nat) (m2 : Bool) (hn : n ≤ 20000) (q : Nat) (hq : q = 40) {s : St}
    (hst : s.tidy [0, 3, 4, 5] = ⟨6, [(0, .optr 0 0), (3, int64 2), (4, .optr 6 0), (5, int64 0)], [.rich (bookB 3 (.osl 1 0 3 3 none)), .rich [.osl 2 0 2 n (some (n + 1)), .osl 3 0 2 (n + 40) none, int64 1, nilB, .osl 4 0 2 q none, int64 2, nilB, .osl 5 0 2 q none, int64 3], .flat (tVal.row (List.replicate (n + 1) (markV 1))) m2, .flat (tVal.row (List.replicate (n + 40) (markV 1))) true, .flat (tVal.row (List.replicate (q) (markV 2))) true, .flat (tVal.row (List.replicate (q) (markV 3))) true, .rich [nilB, .osl 5 0 2 q none, int64 3]]⟩) :
    den code ext (.loop [0, 3, 4, 5] x84L1) s = some (.exit 2, ⟨6, [(0, .optr 0 0), (3, int64 2), (4, .optr 6 0), (5, int64 (q : Nat)), (34, avb false)], [.rich (bookB 3 (.osl 1 0 3 3 none)), .rich [.osl 2 0 2 n (some (n + 1)), .osl 3 0 2 (n + 40) none, int64 1, nilB, .osl 4 0 2 q none, int64 2, nilB, .osl 5 0 2 q none, int64 3], .flat (tVal.row (List.replicate (n + 1) (markV 1))) m2, .flat (tVal.row (List.replicate (n + 40) (markV 1))) true, .flat (tVal.row (List.replicate (q) (markV 2))) true, .flat (tVal.row (List.replicate (q) (markV 3))) true, .rich [nilB, .osl 5 0 2 q none, int64 3]]⟩) := by
  obtain ⟨e, s', h2, _, rfl, rfl⟩ := loop_rule (code := code) (ext := ext) (keep := [0, 3, 4, 5]) (b := x84L1) (fun c s => ∃ j : Nat, j + c = q ∧ s.tidy [0, 3, 4, 5] = ⟨6, [(0, .optr 0 0), (3, int64 2), (4, .optr 6 0), (5, int64 (j : Nat))], [.rich (bookB 3 (.osl 1 0 3 3 none)), .rich [.osl 2 0 2 n (some (n + 1)), .osl 3 0 2 (n + 40) none, int64 1, nilB, .osl 4 0 2 q none, int64 2, nilB, .osl 5 0 2 q none, int64 3], .flat (tVal.row (List.replicate (n + 1) (markV 1))) m2, .flat (tVal.row (List.replicate (n + 40) (markV 1))) true, .flat (tVal.row (List.replicate (q) (markV 2))) true, .flat (tVal.row (List.replicate (q) (markV 3))) true, .rich [nilB, .osl 5 0 2 q none, int64 3]]⟩)
    (fun e s' => e = .exit 2 ∧ s' = ⟨6, [(0, .optr 0 0), (3, int64 2), (4, .optr 6 0), (5, int64 (q : Nat)), (34, avb false)], [.rich (bookB 3 (.osl 1 0 3 3 none)), .rich [.osl 2 0 2 n (some (n + 1)), .osl 3 0 2 (n + 40) none, int64 1, nilB, .osl 4 0 2 q none, int64 2, nilB, .osl 5 0 2 q none, int64 3], .flat (tVal.row (List.replicate (n + 1) (markV 1))) m2, .flat (tVal.row (List.replicate (n + 40) (markV 1))) true, .flat (tVal.row (List.replicate (q) (markV 2))) true, .flat (tVal.row (List.replicate (q) (markV 3))) true, .rich [nilB, .osl 5 0 2 q none, int64 3]]⟩) (fun c s => by
    rintro ⟨j, hj, hst⟩
    rw [hst]
    have his : callW code ext 400 [.agg [.imm (.val (.int .u8 0)), int64 (-1003)], int64 3] [] = some (avb true, []) := by
      have := is_spec (ext := ext) h (markV 3) 3 (by omega) (by omega)
      simpa [markV] using this
    by_cases hlt : j < q
    · have e1 : IntKind.wrap .i64 ((j : Int) + 1) = (j : Int) + 1 := wrapI64 (by omega) (by omega)
      have hlt' : (j : Int) < (q : Nat) := by omega
      have hlt2 : (j : Int) < (0 : Int) + 40 := by omega
      clear hlt2; have hlt2 := hlt'
      have hc1 : cut (tVal.row (List.replicate (q) (markV 3))) (j * 2) 2 = some [IV.val (.int .u8 0), .val (.int .i64 (-1003))] := rep_at 3 (by omega)
      have hl' : ¬ ((j : Int) < 0) := by omega
      refine ⟨.normal, ⟨6, [(0, .optr 0 0), (3, int64 2), (4, .optr 6 0), (5, int64 ((j : Int) + 1))], [.rich (bookB 3 (.osl 1 0 3 3 none)), .rich [.osl 2 0 2 n (some (n + 1)), .osl 3 0 2 (n + 40) none, int64 1, nilB, .osl 4 0 2 q none, int64 2, nilB, .osl 5 0 2 q none, int64 3], .flat (tVal.row (List.replicate (n + 1) (markV 1))) m2, .flat (tVal.row (List.replicate (n + 40) (markV 1))) true, .flat (tVal.row (List.replicate (q) (markV 2))) true, .flat (tVal.row (List.replicate (q) (markV 3))) true, .rich [nilB, .osl 5 0 2 q none, int64 3]]⟩, ?_, .inl ⟨rfl, c - 1, by omega, j + 1, by omega, ?_⟩⟩
      · simp -implicitDefEqProofs [x84L1, hlt', hlt2, his, hc1, hl', e1, bookB, nilB]
      · simp -implicitDefEqProofs [bookB, nilB]
    · have : j = q := by omega
      subst this
      refine ⟨.exit 2, _, ?_, .inr ⟨by simp, rfl, rfl⟩⟩
      simp -implicitDefEqProofs [x84L1, bookB, nilB]) (q) s ⟨0, by simp, hst⟩
  exact h2

set_option maxHeartbeats 4000000 in
theorem lookN2_item (h : code 400 = some x400) (n : Nat) (m2 : Bool) (hn : n ≤ 20000) (q : Nat) (hq : q = 40) :
    den code ext x84L2 ⟨6, [(0, .optr 0 0), (3, int64 2)], [.rich (bookB 3 (.osl 1 0 3 3 none)), .rich [.osl 2 0 2 n (some (n + 1)), .osl 3 0 2 (n + 40) none, int64 1, nilB, .osl 4 0 2 q none, int64 2, nilB, .osl 5 0 2 q none, int64 3], .flat (tVal.row (List.replicate (n + 1) (markV 1))) m2, .flat (tVal.row (List.replicate (n + 40) (markV 1))) true, .flat (tVal.row (List.replicate (q) (markV 2))) true, .flat (tVal.row (List.replicate (q) (markV 3))) true]⟩ = some (.normal, ⟨6, [(0, .optr 0 0), (3, int64 3)], [.rich (bookB 3 (.osl 1 0 3 3 none)), .rich [.osl 2 0 2 n (some (n + 1)), .osl 3 0 2 (n + 40) none, int64 1, nilB, .osl 4 0 2 q none, int64 2, nilB, .osl 5 0 2 q none, int64 3], .flat (tVal.row (List.replicate (n + 1) (markV 1))) m2, .flat (tVal.row (List.replicate (n + 40) (markV 1))) true, .flat (tVal.row (List.replicate (q) (markV 2))) true, .flat (tVal.row (List.replicate (q) (markV 3))) true, .rich [nilB, .osl 5 0 2 q none, int64 3]]⟩) := by
  have e1 : IntKind.wrap .i64 3 = 3 := by decide
  have e2 : IntKind.wrap .i64 40 = 40 := wrapI64 (by omega) (by omega)
  have hqi : (q : Int) = 40 := by omega
  simp -implicitDefEqProofs [x84L2, e1, e2, hqi, bookB, nilB]
  rw [lookN2_loop h n m2 hn q hq (by simp -implicitDefEqProofs [bookB, nilB])]
  simp -implicitDefEqProofs [e1, bookB, nilB]

set_option maxHeartbeats 2000000 in
theorem lookN_spec (h : code 400 = some x400) (h84 : code 84 = some x84) (n : Nat) (m2 : Bool) (hn : n ≤ 20000) (q : Nat) (hq : q = 40) :
    callW code ext 84 [.optr 0 0] [.rich (bookB 3 (.osl 1 0 3 3 none)), .rich [.osl 2 0 2 n (some (n + 1)), .osl 3 0 2 (n + 40) none, int64 1, nilB, .osl 4 0 2 q none, int64 2, nilB, .osl 5 0 2 q none, int64 3], .flat (tVal.row (List.replicate (n + 1) (markV 1))) m2, .flat (tVal.row (List.replicate (n + 40) (markV 1))) true, .flat (tVal.row (List.replicate (q) (markV 2))) true, .flat (tVal.row (List.replicate (q) (markV 3))) true] = some (avb true, [.rich (bookB 3 (.osl 1 0 3 3 none)), .rich [.osl 2 0 2 n (some (n + 1)), .osl 3 0 2 (n + 40) none, int64 1, nilB, .osl 4 0 2 q none, int64 2, nilB, .osl 5 0 2 q none, int64 3], .flat (tVal.row (List.replicate (n + 1) (markV 1))) m2, .flat (tVal.row (List.replicate (n + 40) (markV 1))) true, .flat (tVal.row (List.replicate (q) (markV 2))) true, .flat (tVal.row (List.replicate (q) (markV 3))) true]) := by
  have i0 := lookN0_item (ext := ext) h n m2 hn q hq
  have i1 := lookN1_item (ext := ext) h n m2 hn q hq
  have i2 := lookN2_item (ext := ext) h n m2 hn q hq
  rw [callW_fun code ext h84]
  simp -implicitDefEqProofs [x84, bookB, nilB]
  rw [den_loop, show (St.mk 6 _ _).tidy [0, 3] = ⟨6, [(0, .optr 0 0), (3, int64 0)], [.rich (bookB 3 (.osl 1 0 3 3 none)), .rich [.osl 2 0 2 n (some (n + 1)), .osl 3 0 2 (n + 40) none, int64 1, nilB, .osl 4 0 2 q none, int64 2, nilB, .osl 5 0 2 q none, int64 3], .flat (tVal.row (List.replicate (n + 1) (markV 1))) m2, .flat (tVal.row (List.replicate (n + 40) (markV 1))) true, .flat (tVal.row (List.replicate (q) (markV 2))) true, .flat (tVal.row (List.replicate (q) (markV 3))) true]⟩ by simp -implicitDefEqProofs [bookB, nilB], i0]
  simp only [andThen]
  rw [den_loop, show (St.mk 6 _ _).tidy [0, 3] = ⟨6, [(0, .optr 0 0), (3, int64 1)], [.rich (bookB 3 (.osl 1 0 3 3 none)), .rich [.osl 2 0 2 n (some (n + 1)), .osl 3 0 2 (n + 40) none, int64 1, nilB, .osl 4 0 2 q none, int64 2, nilB, .osl 5 0 2 q none, int64 3], .flat (tVal.row (List.replicate (n + 1) (markV 1))) m2, .flat (tVal.row (List.replicate (n + 40) (markV 1))) true, .flat (tVal.row (List.replicate (q) (markV 2))) true, .flat (tVal.row (List.replicate (q) (markV 3))) true]⟩ by simp -implicitDefEqProofs [bookB, nilB], i1]
  simp only [andThen]
  rw [den_loop, show (St.mk 6 _ _).tidy [0, 3] = ⟨6, [(0, .optr 0 0), (3, int64 2)], [.rich (bookB 3 (.osl 1 0 3 3 none)), .rich [.osl 2 0 2 n (some (n + 1)), .osl 3 0 2 (n + 40) none, int64 1, nilB, .osl 4 0 2 q none, int64 2, nilB, .osl 5 0 2 q none, int64 3], .flat (tVal.row (List.replicate (n + 1) (markV 1))) m2, .flat (tVal.row (List.replicate (n + 40) (markV 1))) true, .flat (tVal.row (List.replicate (q) (markV 2))) true, .flat (tVal.row (List.replicate (q) (markV 3))) true]⟩ by simp -implicitDefEqProofs [bookB, nilB], i2]
  simp only [andThen]
  rw [den_loop, show (St.mk 6 _ _).tidy [0, 3] = ⟨6, [(0, .optr 0 0), (3, int64 3)], [.rich (bookB 3 (.osl 1 0 3 3 none)), .rich [.osl 2 0 2 n (some (n + 1)), .osl 3 0 2 (n + 40) none, int64 1, nilB, .osl 4 0 2 q none, int64 2, nilB, .osl 5 0 2 q none, int64 3], .flat (tVal.row (List.replicate (n + 1) (markV 1))) m2, .flat (tVal.row (List.replicate (n + 40) (markV 1))) true, .flat (tVal.row (List.replicate (q) (markV 2))) true, .flat (tVal.row (List.replicate (q) (markV 3))) true]⟩ by simp -implicitDefEqProofs [bookB, nilB]]
  simp -implicitDefEqProofs [x84L2, bookB, nilB]


end
end Go.EX
