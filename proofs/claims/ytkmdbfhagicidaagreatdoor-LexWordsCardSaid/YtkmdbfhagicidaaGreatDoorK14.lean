import Derived.Test.YtkmdbfhagicidaaGreatDoorK13
set_option maxHeartbeats 4000000
set_option linter.unusedVariables false
set_option linter.unusedSimpArgs false
namespace Go.EX
section
variable {code : Nat → Option XFun} {ext : Calls'}
theorem znt (k : Nat) {n j : Nat} (h : j < n) : cut (t5.row (List.replicate n (mkW k))) (j * 4) 4 = some [.val (.int .u8 0), .val (.string (mkB k)), .val (.int .i64 0), .val (.int .i64 0)] :=
 ze8 (t := t5) (x := mkW k) (by rw [List.getElem?_replicate, if_pos h])
theorem zhx (h : MarkCode code ext) (n : Nat) (m2 m3 : Bool) (hn : n ≤ 1000000) {s : St}
  (hst : s.tidy [0, 3, 4, 5] = ⟨6, [(0, .optr 0 0), (3, int64 0), (4, .optr 6 0), (5, int64 0)], [.rich (bookW 2 (.osl 1 0 3 2 none)), .rich [.osl 2 0 4 n none, .osl 3 0 4 (n + 40) none, int64 1, .osl 4 0 4 n none, .osl 5 0 4 (n + 40) none, int64 2], .fix (t5.row (List.replicate (n) (mkW 1))) m2 false, .fix (t5.row (List.replicate (n + 40) (mkW 1))) false true, .fix (t5.row (List.replicate (n) (mkW 2))) m3 false, .fix (t5.row (List.replicate (n + 40) (mkW 2))) false true, .rich [.osl 2 0 4 n none, .osl 3 0 4 (n + 40) none, int64 1]]⟩) :
  den code ext (.loop [0, 3, 4, 5] x85L1) s = some (.exit 2, ⟨6, [(0, .optr 0 0), (3, int64 0), (4, .optr 6 0), (5, int64 (n + 40 : Nat)), (34, avb false)], [.rich (bookW 2 (.osl 1 0 3 2 none)), .rich [.osl 2 0 4 n none, .osl 3 0 4 (n + 40) none, int64 1, .osl 4 0 4 n none, .osl 5 0 4 (n + 40) none, int64 2], .fix (t5.row (List.replicate (n) (mkW 1))) m2 false, .fix (t5.row (List.replicate (n + 40) (mkW 1))) false true, .fix (t5.row (List.replicate (n) (mkW 2))) m3 false, .fix (t5.row (List.replicate (n + 40) (mkW 2))) false true, .rich [.osl 2 0 4 n none, .osl 3 0 4 (n + 40) none, int64 1]]⟩) := by
 obtain ⟨e, s', h2, _, rfl, rfl⟩ := zh9 (code := code) (ext := ext) (keep := [0, 3, 4, 5]) (b := x85L1) (fun c s => ∃ j : Nat, j + c = n + 40 ∧ s.tidy [0, 3, 4, 5] = ⟨6, [(0, .optr 0 0), (3, int64 0), (4, .optr 6 0), (5, int64 (j : Nat))], [.rich (bookW 2 (.osl 1 0 3 2 none)), .rich [.osl 2 0 4 n none, .osl 3 0 4 (n + 40) none, int64 1, .osl 4 0 4 n none, .osl 5 0 4 (n + 40) none, int64 2], .fix (t5.row (List.replicate (n) (mkW 1))) m2 false, .fix (t5.row (List.replicate (n + 40) (mkW 1))) false true, .fix (t5.row (List.replicate (n) (mkW 2))) m3 false, .fix (t5.row (List.replicate (n + 40) (mkW 2))) false true, .rich [.osl 2 0 4 n none, .osl 3 0 4 (n + 40) none, int64 1]]⟩)
  (fun e s' => e = .exit 2 ∧ s' = ⟨6, [(0, .optr 0 0), (3, int64 0), (4, .optr 6 0), (5, int64 (n + 40 : Nat)), (34, avb false)], [.rich (bookW 2 (.osl 1 0 3 2 none)), .rich [.osl 2 0 4 n none, .osl 3 0 4 (n + 40) none, int64 1, .osl 4 0 4 n none, .osl 5 0 4 (n + 40) none, int64 2], .fix (t5.row (List.replicate (n) (mkW 1))) m2 false, .fix (t5.row (List.replicate (n + 40) (mkW 1))) false true, .fix (t5.row (List.replicate (n) (mkW 2))) m3 false, .fix (t5.row (List.replicate (n + 40) (mkW 2))) false true, .rich [.osl 2 0 4 n none, .osl 3 0 4 (n + 40) none, int64 1]]⟩) (fun c s => by
  rintro ⟨j, hj, hst⟩
  rw [hst]
  have his := zg2 (ext := ext) h
  by_cases hlt : j < n + 40
  ·have e1 : IntKind.wrap .i64 ((j : Int) + 1) = (j : Int) + 1 := wrapI64 (by omega) (by omega)
   have hlt' : (j : Int) < (n + 40 : Nat) := by omega
   have hlt2 : (j : Int) < (n : Int) + 40 := by omega
   have hc1 := znt 1 hlt
   by_cases hl : j < n
   ·have hc2 := znt 1 hl
    have hl' : (j : Int) < n := by omega
    refine ⟨.normal, ⟨6, [(0, .optr 0 0), (3, int64 0), (4, .optr 6 0), (5, int64 ((j : Int) + 1))], [.rich (bookW 2 (.osl 1 0 3 2 none)), .rich [.osl 2 0 4 n none, .osl 3 0 4 (n + 40) none, int64 1, .osl 4 0 4 n none, .osl 5 0 4 (n + 40) none, int64 2], .fix (t5.row (List.replicate (n) (mkW 1))) m2 false, .fix (t5.row (List.replicate (n + 40) (mkW 1))) false true, .fix (t5.row (List.replicate (n) (mkW 2))) m3 false, .fix (t5.row (List.replicate (n + 40) (mkW 2))) false true, .rich [.osl 2 0 4 n none, .osl 3 0 4 (n + 40) none, int64 1]]⟩, ?_, .inl ⟨rfl, c - 1, by omega, j + 1, by omega, ?_⟩⟩
    generalize t5.row (List.replicate (n + 40) (mkW 2)) = H0 at *
    generalize t5.row (List.replicate (n) (mkW 2)) = H1 at *
    generalize t5.row (List.replicate (n + 40) (mkW 1)) = H2 at *
    generalize t5.row (List.replicate (n) (mkW 1)) = H3 at *
    ·simp -implicitDefEqProofs [x85L1, hlt', hlt2, hlt, his, hc1, hl, hl', hc2, e1, bookW, nilS]
    ·simp -implicitDefEqProofs [bookW, nilS]
   ·have hl' : ¬ (j : Int) < n := by omega
    refine ⟨.normal, ⟨6, [(0, .optr 0 0), (3, int64 0), (4, .optr 6 0), (5, int64 ((j : Int) + 1))], [.rich (bookW 2 (.osl 1 0 3 2 none)), .rich [.osl 2 0 4 n none, .osl 3 0 4 (n + 40) none, int64 1, .osl 4 0 4 n none, .osl 5 0 4 (n + 40) none, int64 2], .fix (t5.row (List.replicate (n) (mkW 1))) m2 false, .fix (t5.row (List.replicate (n + 40) (mkW 1))) false true, .fix (t5.row (List.replicate (n) (mkW 2))) m3 false, .fix (t5.row (List.replicate (n + 40) (mkW 2))) false true, .rich [.osl 2 0 4 n none, .osl 3 0 4 (n + 40) none, int64 1]]⟩, ?_, .inl ⟨rfl, c - 1, by omega, j + 1, by omega, ?_⟩⟩
    generalize t5.row (List.replicate (n + 40) (mkW 2)) = H0 at *
    generalize t5.row (List.replicate (n) (mkW 2)) = H1 at *
    generalize t5.row (List.replicate (n + 40) (mkW 1)) = H2 at *
    generalize t5.row (List.replicate (n) (mkW 1)) = H3 at *
    ·simp -implicitDefEqProofs [x85L1, hlt', hlt2, hlt, his, hc1, hl, hl', e1, bookW, nilS]
    ·simp -implicitDefEqProofs [bookW, nilS]
  ·have : j = n + 40 := by omega
   subst this
   refine ⟨.exit 2, _, ?_, .inr ⟨by simp, rfl, rfl⟩⟩
   simp -implicitDefEqProofs [x85L1, bookW, nilS]) (n + 40) s ⟨0, by simp, hst⟩
 exact h2
theorem zhw (h : MarkCode code ext) (n : Nat) (m2 m3 : Bool) (hn : n ≤ 1000000) :
  den code ext x85L2 ⟨6, [(0, .optr 0 0), (3, int64 0)], [.rich (bookW 2 (.osl 1 0 3 2 none)), .rich [.osl 2 0 4 n none, .osl 3 0 4 (n + 40) none, int64 1, .osl 4 0 4 n none, .osl 5 0 4 (n + 40) none, int64 2], .fix (t5.row (List.replicate (n) (mkW 1))) m2 false, .fix (t5.row (List.replicate (n + 40) (mkW 1))) false true, .fix (t5.row (List.replicate (n) (mkW 2))) m3 false, .fix (t5.row (List.replicate (n + 40) (mkW 2))) false true]⟩ = some (.normal, ⟨6, [(0, .optr 0 0), (3, int64 1)], [.rich (bookW 2 (.osl 1 0 3 2 none)), .rich [.osl 2 0 4 n none, .osl 3 0 4 (n + 40) none, int64 1, .osl 4 0 4 n none, .osl 5 0 4 (n + 40) none, int64 2], .fix (t5.row (List.replicate (n) (mkW 1))) m2 false, .fix (t5.row (List.replicate (n + 40) (mkW 1))) false true, .fix (t5.row (List.replicate (n) (mkW 2))) m3 false, .fix (t5.row (List.replicate (n + 40) (mkW 2))) false true, .rich [.osl 2 0 4 n none, .osl 3 0 4 (n + 40) none, int64 1]]⟩) := by
 have e1 : IntKind.wrap .i64 1 = 1 := by decide
 have e2 : IntKind.wrap .i64 ((n : Int) + 40) = ((n : Int) + 40) := wrapI64 (by omega) (by omega)
 have hl := zhx (ext := ext) h n m2 m3 hn (s := ⟨6, [(0, .optr 0 0), (3, int64 0), (4, .optr 6 0), (5, int64 0)], [.rich (bookW 2 (.osl 1 0 3 2 none)), .rich [.osl 2 0 4 n none, .osl 3 0 4 (n + 40) none, int64 1, .osl 4 0 4 n none, .osl 5 0 4 (n + 40) none, int64 2], .fix (t5.row (List.replicate (n) (mkW 1))) m2 false, .fix (t5.row (List.replicate (n + 40) (mkW 1))) false true, .fix (t5.row (List.replicate (n) (mkW 2))) m3 false, .fix (t5.row (List.replicate (n + 40) (mkW 2))) false true, .rich [.osl 2 0 4 n none, .osl 3 0 4 (n + 40) none, int64 1]]⟩) (by
  generalize t5.row (List.replicate (n + 40) (mkW 2)) = H0
  generalize t5.row (List.replicate (n) (mkW 2)) = H1
  generalize t5.row (List.replicate (n + 40) (mkW 1)) = H2
  generalize t5.row (List.replicate (n) (mkW 1)) = H3
  simp -implicitDefEqProofs [bookW, nilS])
 simp only [bookW, nilS] at hl
 generalize t5.row (List.replicate (n + 40) (mkW 2)) = H0 at *
 generalize t5.row (List.replicate (n) (mkW 2)) = H1 at *
 generalize t5.row (List.replicate (n + 40) (mkW 1)) = H2 at *
 generalize t5.row (List.replicate (n) (mkW 1)) = H3 at *
 simp -implicitDefEqProofs [x85L2, e1, e2, hl, bookW, nilS]
theorem zhz (h : MarkCode code ext) (n : Nat) (m2 m3 : Bool) (hn : n ≤ 1000000) {s : St}
  (hst : s.tidy [0, 3, 4, 5] = ⟨6, [(0, .optr 0 0), (3, int64 1), (4, .optr 6 0), (5, int64 0)], [.rich (bookW 2 (.osl 1 0 3 2 none)), .rich [.osl 2 0 4 n none, .osl 3 0 4 (n + 40) none, int64 1, .osl 4 0 4 n none, .osl 5 0 4 (n + 40) none, int64 2], .fix (t5.row (List.replicate (n) (mkW 1))) m2 false, .fix (t5.row (List.replicate (n + 40) (mkW 1))) false true, .fix (t5.row (List.replicate (n) (mkW 2))) m3 false, .fix (t5.row (List.replicate (n + 40) (mkW 2))) false true, .rich [.osl 4 0 4 n none, .osl 5 0 4 (n + 40) none, int64 2]]⟩) :
  den code ext (.loop [0, 3, 4, 5] x85L1) s = some (.exit 2, ⟨6, [(0, .optr 0 0), (3, int64 1), (4, .optr 6 0), (5, int64 (n + 40 : Nat)), (34, avb false)], [.rich (bookW 2 (.osl 1 0 3 2 none)), .rich [.osl 2 0 4 n none, .osl 3 0 4 (n + 40) none, int64 1, .osl 4 0 4 n none, .osl 5 0 4 (n + 40) none, int64 2], .fix (t5.row (List.replicate (n) (mkW 1))) m2 false, .fix (t5.row (List.replicate (n + 40) (mkW 1))) false true, .fix (t5.row (List.replicate (n) (mkW 2))) m3 false, .fix (t5.row (List.replicate (n + 40) (mkW 2))) false true, .rich [.osl 4 0 4 n none, .osl 5 0 4 (n + 40) none, int64 2]]⟩) := by
 obtain ⟨e, s', h2, _, rfl, rfl⟩ := zh9 (code := code) (ext := ext) (keep := [0, 3, 4, 5]) (b := x85L1) (fun c s => ∃ j : Nat, j + c = n + 40 ∧ s.tidy [0, 3, 4, 5] = ⟨6, [(0, .optr 0 0), (3, int64 1), (4, .optr 6 0), (5, int64 (j : Nat))], [.rich (bookW 2 (.osl 1 0 3 2 none)), .rich [.osl 2 0 4 n none, .osl 3 0 4 (n + 40) none, int64 1, .osl 4 0 4 n none, .osl 5 0 4 (n + 40) none, int64 2], .fix (t5.row (List.replicate (n) (mkW 1))) m2 false, .fix (t5.row (List.replicate (n + 40) (mkW 1))) false true, .fix (t5.row (List.replicate (n) (mkW 2))) m3 false, .fix (t5.row (List.replicate (n + 40) (mkW 2))) false true, .rich [.osl 4 0 4 n none, .osl 5 0 4 (n + 40) none, int64 2]]⟩)
  (fun e s' => e = .exit 2 ∧ s' = ⟨6, [(0, .optr 0 0), (3, int64 1), (4, .optr 6 0), (5, int64 (n + 40 : Nat)), (34, avb false)], [.rich (bookW 2 (.osl 1 0 3 2 none)), .rich [.osl 2 0 4 n none, .osl 3 0 4 (n + 40) none, int64 1, .osl 4 0 4 n none, .osl 5 0 4 (n + 40) none, int64 2], .fix (t5.row (List.replicate (n) (mkW 1))) m2 false, .fix (t5.row (List.replicate (n + 40) (mkW 1))) false true, .fix (t5.row (List.replicate (n) (mkW 2))) m3 false, .fix (t5.row (List.replicate (n + 40) (mkW 2))) false true, .rich [.osl 4 0 4 n none, .osl 5 0 4 (n + 40) none, int64 2]]⟩) (fun c s => by
  rintro ⟨j, hj, hst⟩
  rw [hst]
  have his := zg3 (ext := ext) h
  by_cases hlt : j < n + 40
  ·have e1 : IntKind.wrap .i64 ((j : Int) + 1) = (j : Int) + 1 := wrapI64 (by omega) (by omega)
   have hlt' : (j : Int) < (n + 40 : Nat) := by omega
   have hlt2 : (j : Int) < (n : Int) + 40 := by omega
   have hc1 := znt 2 hlt
   by_cases hl : j < n
   ·have hc2 := znt 2 hl
    have hl' : (j : Int) < n := by omega
    refine ⟨.normal, ⟨6, [(0, .optr 0 0), (3, int64 1), (4, .optr 6 0), (5, int64 ((j : Int) + 1))], [.rich (bookW 2 (.osl 1 0 3 2 none)), .rich [.osl 2 0 4 n none, .osl 3 0 4 (n + 40) none, int64 1, .osl 4 0 4 n none, .osl 5 0 4 (n + 40) none, int64 2], .fix (t5.row (List.replicate (n) (mkW 1))) m2 false, .fix (t5.row (List.replicate (n + 40) (mkW 1))) false true, .fix (t5.row (List.replicate (n) (mkW 2))) m3 false, .fix (t5.row (List.replicate (n + 40) (mkW 2))) false true, .rich [.osl 4 0 4 n none, .osl 5 0 4 (n + 40) none, int64 2]]⟩, ?_, .inl ⟨rfl, c - 1, by omega, j + 1, by omega, ?_⟩⟩
    generalize t5.row (List.replicate (n + 40) (mkW 1)) = H0 at *
    generalize t5.row (List.replicate (n) (mkW 1)) = H1 at *
    generalize t5.row (List.replicate (n + 40) (mkW 2)) = H2 at *
    generalize t5.row (List.replicate (n) (mkW 2)) = H3 at *
    ·simp -implicitDefEqProofs [x85L1, hlt', hlt2, hlt, his, hc1, hl, hl', hc2, e1, bookW, nilS]
    ·simp -implicitDefEqProofs [bookW, nilS]
   ·have hl' : ¬ (j : Int) < n := by omega
    refine ⟨.normal, ⟨6, [(0, .optr 0 0), (3, int64 1), (4, .optr 6 0), (5, int64 ((j : Int) + 1))], [.rich (bookW 2 (.osl 1 0 3 2 none)), .rich [.osl 2 0 4 n none, .osl 3 0 4 (n + 40) none, int64 1, .osl 4 0 4 n none, .osl 5 0 4 (n + 40) none, int64 2], .fix (t5.row (List.replicate (n) (mkW 1))) m2 false, .fix (t5.row (List.replicate (n + 40) (mkW 1))) false true, .fix (t5.row (List.replicate (n) (mkW 2))) m3 false, .fix (t5.row (List.replicate (n + 40) (mkW 2))) false true, .rich [.osl 4 0 4 n none, .osl 5 0 4 (n + 40) none, int64 2]]⟩, ?_, .inl ⟨rfl, c - 1, by omega, j + 1, by omega, ?_⟩⟩
    generalize t5.row (List.replicate (n + 40) (mkW 1)) = H0 at *
    generalize t5.row (List.replicate (n) (mkW 1)) = H1 at *
    generalize t5.row (List.replicate (n + 40) (mkW 2)) = H2 at *
    generalize t5.row (List.replicate (n) (mkW 2)) = H3 at *
    ·simp -implicitDefEqProofs [x85L1, hlt', hlt2, hlt, his, hc1, hl, hl', e1, bookW, nilS]
    ·simp -implicitDefEqProofs [bookW, nilS]
  ·have : j = n + 40 := by omega
   subst this
   refine ⟨.exit 2, _, ?_, .inr ⟨by simp, rfl, rfl⟩⟩
   simp -implicitDefEqProofs [x85L1, bookW, nilS]) (n + 40) s ⟨0, by simp, hst⟩
 exact h2
theorem zhy (h : MarkCode code ext) (n : Nat) (m2 m3 : Bool) (hn : n ≤ 1000000) :
  den code ext x85L2 ⟨6, [(0, .optr 0 0), (3, int64 1)], [.rich (bookW 2 (.osl 1 0 3 2 none)), .rich [.osl 2 0 4 n none, .osl 3 0 4 (n + 40) none, int64 1, .osl 4 0 4 n none, .osl 5 0 4 (n + 40) none, int64 2], .fix (t5.row (List.replicate (n) (mkW 1))) m2 false, .fix (t5.row (List.replicate (n + 40) (mkW 1))) false true, .fix (t5.row (List.replicate (n) (mkW 2))) m3 false, .fix (t5.row (List.replicate (n + 40) (mkW 2))) false true]⟩ = some (.normal, ⟨6, [(0, .optr 0 0), (3, int64 2)], [.rich (bookW 2 (.osl 1 0 3 2 none)), .rich [.osl 2 0 4 n none, .osl 3 0 4 (n + 40) none, int64 1, .osl 4 0 4 n none, .osl 5 0 4 (n + 40) none, int64 2], .fix (t5.row (List.replicate (n) (mkW 1))) m2 false, .fix (t5.row (List.replicate (n + 40) (mkW 1))) false true, .fix (t5.row (List.replicate (n) (mkW 2))) m3 false, .fix (t5.row (List.replicate (n + 40) (mkW 2))) false true, .rich [.osl 4 0 4 n none, .osl 5 0 4 (n + 40) none, int64 2]]⟩) := by
 have e1 : IntKind.wrap .i64 2 = 2 := by decide
 have e2 : IntKind.wrap .i64 ((n : Int) + 40) = ((n : Int) + 40) := wrapI64 (by omega) (by omega)
 have hl := zhz (ext := ext) h n m2 m3 hn (s := ⟨6, [(0, .optr 0 0), (3, int64 1), (4, .optr 6 0), (5, int64 0)], [.rich (bookW 2 (.osl 1 0 3 2 none)), .rich [.osl 2 0 4 n none, .osl 3 0 4 (n + 40) none, int64 1, .osl 4 0 4 n none, .osl 5 0 4 (n + 40) none, int64 2], .fix (t5.row (List.replicate (n) (mkW 1))) m2 false, .fix (t5.row (List.replicate (n + 40) (mkW 1))) false true, .fix (t5.row (List.replicate (n) (mkW 2))) m3 false, .fix (t5.row (List.replicate (n + 40) (mkW 2))) false true, .rich [.osl 4 0 4 n none, .osl 5 0 4 (n + 40) none, int64 2]]⟩) (by
  generalize t5.row (List.replicate (n + 40) (mkW 1)) = H0
  generalize t5.row (List.replicate (n) (mkW 1)) = H1
  generalize t5.row (List.replicate (n + 40) (mkW 2)) = H2
  generalize t5.row (List.replicate (n) (mkW 2)) = H3
  simp -implicitDefEqProofs [bookW, nilS])
 simp only [bookW, nilS] at hl
 generalize t5.row (List.replicate (n + 40) (mkW 1)) = H0 at *
 generalize t5.row (List.replicate (n) (mkW 1)) = H1 at *
 generalize t5.row (List.replicate (n + 40) (mkW 2)) = H2 at *
 generalize t5.row (List.replicate (n) (mkW 2)) = H3 at *
 simp -implicitDefEqProofs [x85L2, e1, e2, hl, bookW, nilS]
theorem zh0 (h : MarkCode code ext) (h85 : code 85 = some x85) (n : Nat) (m2 m3 : Bool) (hn : n ≤ 1000000) :
  callW code ext 85 [.optr 0 0] [.rich (bookW 2 (.osl 1 0 3 2 none)), .rich [.osl 2 0 4 n none, .osl 3 0 4 (n + 40) none, int64 1, .osl 4 0 4 n none, .osl 5 0 4 (n + 40) none, int64 2], .fix (t5.row (List.replicate (n) (mkW 1))) m2 false, .fix (t5.row (List.replicate (n + 40) (mkW 1))) false true, .fix (t5.row (List.replicate (n) (mkW 2))) m3 false, .fix (t5.row (List.replicate (n + 40) (mkW 2))) false true] = some (avb true, [.rich (bookW 2 (.osl 1 0 3 2 none)), .rich [.osl 2 0 4 n none, .osl 3 0 4 (n + 40) none, int64 1, .osl 4 0 4 n none, .osl 5 0 4 (n + 40) none, int64 2], .fix (t5.row (List.replicate (n) (mkW 1))) m2 false, .fix (t5.row (List.replicate (n + 40) (mkW 1))) false true, .fix (t5.row (List.replicate (n) (mkW 2))) m3 false, .fix (t5.row (List.replicate (n + 40) (mkW 2))) false true]) := by
 have i0 := zhw (ext := ext) h n m2 m3 hn
 have i1 := zhy (ext := ext) h n m2 m3 hn
 have hT : ∀ (i : Int) (J : Mem), J = [] ∨ J = [.rich [.osl 2 0 4 n none, .osl 3 0 4 (n + 40) none, int64 1]] ∨ J = [.rich [.osl 4 0 4 n none, .osl 5 0 4 (n + 40) none, int64 2]] → (⟨6, [(0, .optr 0 0), (3, int64 i)], [.rich (bookW 2 (.osl 1 0 3 2 none)), .rich [.osl 2 0 4 n none, .osl 3 0 4 (n + 40) none, int64 1, .osl 4 0 4 n none, .osl 5 0 4 (n + 40) none, int64 2], .fix (t5.row (List.replicate (n) (mkW 1))) m2 false, .fix (t5.row (List.replicate (n + 40) (mkW 1))) false true, .fix (t5.row (List.replicate (n) (mkW 2))) m3 false, .fix (t5.row (List.replicate (n + 40) (mkW 2))) false true] ++ J⟩ : St).tidy [0, 3] = ⟨6, [(0, .optr 0 0), (3, int64 i)], [.rich (bookW 2 (.osl 1 0 3 2 none)), .rich [.osl 2 0 4 n none, .osl 3 0 4 (n + 40) none, int64 1, .osl 4 0 4 n none, .osl 5 0 4 (n + 40) none, int64 2], .fix (t5.row (List.replicate (n) (mkW 1))) m2 false, .fix (t5.row (List.replicate (n + 40) (mkW 1))) false true, .fix (t5.row (List.replicate (n) (mkW 2))) m3 false, .fix (t5.row (List.replicate (n + 40) (mkW 2))) false true]⟩ := by
  intro i J hJ
  clear i0 i1
  generalize t5.row (List.replicate (n) (mkW 1)) = H0
  generalize t5.row (List.replicate (n + 40) (mkW 1)) = H1
  generalize t5.row (List.replicate (n) (mkW 2)) = H2
  generalize t5.row (List.replicate (n + 40) (mkW 2)) = H3
  rcases hJ with rfl | rfl | rfl <;> simp -implicitDefEqProofs [bookW, nilS]
 have i3 : ∀ M : Mem, M = [.rich (bookW 2 (.osl 1 0 3 2 none)), .rich [.osl 2 0 4 n none, .osl 3 0 4 (n + 40) none, int64 1, .osl 4 0 4 n none, .osl 5 0 4 (n + 40) none, int64 2], .fix (t5.row (List.replicate (n) (mkW 1))) m2 false, .fix (t5.row (List.replicate (n + 40) (mkW 1))) false true, .fix (t5.row (List.replicate (n) (mkW 2))) m3 false, .fix (t5.row (List.replicate (n + 40) (mkW 2))) false true] → ∃ e, den code ext x85L2 ⟨6, [(0, .optr 0 0), (3, int64 2)], M⟩ = some (.exit 0, ⟨6, e, M⟩) := by
  rintro M rfl
  clear i0 i1 hT
  exact ⟨[(0, .optr 0 0), (3, int64 2), (12, avb false)], by
   generalize t5.row (List.replicate (n) (mkW 1)) = H0
   generalize t5.row (List.replicate (n + 40) (mkW 1)) = H1
   generalize t5.row (List.replicate (n) (mkW 2)) = H2
   generalize t5.row (List.replicate (n + 40) (mkW 2)) = H3
   simp -implicitDefEqProofs [x85L2, bookW, nilS]⟩
 obtain ⟨e, i3⟩ := i3 _ rfl
 have hL : den code ext (.loop [0, 3] x85L2) ⟨6, [(0, .optr 0 0), (3, int64 0)], [.rich (bookW 2 (.osl 1 0 3 2 none)), .rich [.osl 2 0 4 n none, .osl 3 0 4 (n + 40) none, int64 1, .osl 4 0 4 n none, .osl 5 0 4 (n + 40) none, int64 2], .fix (t5.row (List.replicate (n) (mkW 1))) m2 false, .fix (t5.row (List.replicate (n + 40) (mkW 1))) false true, .fix (t5.row (List.replicate (n) (mkW 2))) m3 false, .fix (t5.row (List.replicate (n + 40) (mkW 2))) false true]⟩ = some (.exit 0, ⟨6, e, [.rich (bookW 2 (.osl 1 0 3 2 none)), .rich [.osl 2 0 4 n none, .osl 3 0 4 (n + 40) none, int64 1, .osl 4 0 4 n none, .osl 5 0 4 (n + 40) none, int64 2], .fix (t5.row (List.replicate (n) (mkW 1))) m2 false, .fix (t5.row (List.replicate (n + 40) (mkW 1))) false true, .fix (t5.row (List.replicate (n) (mkW 2))) m3 false, .fix (t5.row (List.replicate (n + 40) (mkW 2))) false true]⟩) := by
  have t0 := hT 0 [] (.inl rfl)
  have t1 := hT 1 _ (.inr (.inl rfl))
  have t2 := hT 2 _ (.inr (.inr rfl))
  simp only [List.cons_append, List.nil_append] at t0 t1 t2
  rw [zcp, t0, i0]
  simp only [andThen]
  rw [zcp, t1, i1]
  simp only [andThen]
  rw [zcp, t2, i3]
  rfl
 clear hT i0 i1 i3
 rw [zbi code ext h85]
 simp only [bookW, nilS] at hL
 generalize t5.row (List.replicate (n) (mkW 1)) = H0 at *
 generalize t5.row (List.replicate (n + 40) (mkW 1)) = H1 at *
 generalize t5.row (List.replicate (n) (mkW 2)) = H2 at *
 generalize t5.row (List.replicate (n + 40) (mkW 2)) = H3 at *
 simp -implicitDefEqProofs [x85, hL, bookW, nilS]
theorem zh2 (h : MarkCode code ext) (q : Nat) (hq : q = 40)  {s : St}
  (hst : s.tidy [0, 3, 4, 5] = ⟨4, [(0, .optr 0 0), (3, int64 0), (4, .optr 4 0), (5, int64 0)], [.rich (bookW 2 (.osl 1 0 3 2 none)), .rich [nilS, .osl 2 0 4 q none, int64 1, nilS, .osl 3 0 4 q none, int64 2], .fix (t5.row (List.replicate (q) (mkW 1))) false true, .fix (t5.row (List.replicate (q) (mkW 2))) false true, .rich [nilS, .osl 2 0 4 q none, int64 1]]⟩) :
  den code ext (.loop [0, 3, 4, 5] x85L1) s = some (.exit 2, ⟨4, [(0, .optr 0 0), (3, int64 0), (4, .optr 4 0), (5, int64 (q : Nat)), (34, avb false)], [.rich (bookW 2 (.osl 1 0 3 2 none)), .rich [nilS, .osl 2 0 4 q none, int64 1, nilS, .osl 3 0 4 q none, int64 2], .fix (t5.row (List.replicate (q) (mkW 1))) false true, .fix (t5.row (List.replicate (q) (mkW 2))) false true, .rich [nilS, .osl 2 0 4 q none, int64 1]]⟩) := by
 obtain ⟨e, s', h2, _, rfl, rfl⟩ := zh9 (code := code) (ext := ext) (keep := [0, 3, 4, 5]) (b := x85L1) (fun c s => ∃ j : Nat, j + c = q ∧ s.tidy [0, 3, 4, 5] = ⟨4, [(0, .optr 0 0), (3, int64 0), (4, .optr 4 0), (5, int64 (j : Nat))], [.rich (bookW 2 (.osl 1 0 3 2 none)), .rich [nilS, .osl 2 0 4 q none, int64 1, nilS, .osl 3 0 4 q none, int64 2], .fix (t5.row (List.replicate (q) (mkW 1))) false true, .fix (t5.row (List.replicate (q) (mkW 2))) false true, .rich [nilS, .osl 2 0 4 q none, int64 1]]⟩)
  (fun e s' => e = .exit 2 ∧ s' = ⟨4, [(0, .optr 0 0), (3, int64 0), (4, .optr 4 0), (5, int64 (q : Nat)), (34, avb false)], [.rich (bookW 2 (.osl 1 0 3 2 none)), .rich [nilS, .osl 2 0 4 q none, int64 1, nilS, .osl 3 0 4 q none, int64 2], .fix (t5.row (List.replicate (q) (mkW 1))) false true, .fix (t5.row (List.replicate (q) (mkW 2))) false true, .rich [nilS, .osl 2 0 4 q none, int64 1]]⟩) (fun c s => by
  rintro ⟨j, hj, hst⟩
  rw [hst]
  have his := zg2 (ext := ext) h
  by_cases hlt : j < q
  ·have e1 : IntKind.wrap .i64 ((j : Int) + 1) = (j : Int) + 1 := wrapI64 (by omega) (by omega)
   have hlt' : (j : Int) < (q : Nat) := by omega
   have hlt2 : (j : Int) < (q : Int) := by omega
   have hc1 := znt 1 hlt
   have hl' : ¬ ((j : Int) < 0) := by omega
   refine ⟨.normal, ⟨4, [(0, .optr 0 0), (3, int64 0), (4, .optr 4 0), (5, int64 ((j : Int) + 1))], [.rich (bookW 2 (.osl 1 0 3 2 none)), .rich [nilS, .osl 2 0 4 q none, int64 1, nilS, .osl 3 0 4 q none, int64 2], .fix (t5.row (List.replicate (q) (mkW 1))) false true, .fix (t5.row (List.replicate (q) (mkW 2))) false true, .rich [nilS, .osl 2 0 4 q none, int64 1]]⟩, ?_, .inl ⟨rfl, c - 1, by omega, j + 1, by omega, ?_⟩⟩
   generalize t5.row (List.replicate (q) (mkW 2)) = H0 at *
   generalize t5.row (List.replicate (q) (mkW 1)) = H1 at *
   ·simp -implicitDefEqProofs [x85L1, hlt', hlt2, hlt, his, hc1, hl', e1, bookW, nilS]
   ·simp -implicitDefEqProofs [bookW, nilS]
  ·have : j = q := by omega
   subst this
   refine ⟨.exit 2, _, ?_, .inr ⟨by simp, rfl, rfl⟩⟩
   simp -implicitDefEqProofs [x85L1, bookW, nilS]) (q) s ⟨0, by simp, hst⟩
 exact h2
theorem zh1 (h : MarkCode code ext) (q : Nat) (hq : q = 40)  :
  den code ext x85L2 ⟨4, [(0, .optr 0 0), (3, int64 0)], [.rich (bookW 2 (.osl 1 0 3 2 none)), .rich [nilS, .osl 2 0 4 q none, int64 1, nilS, .osl 3 0 4 q none, int64 2], .fix (t5.row (List.replicate (q) (mkW 1))) false true, .fix (t5.row (List.replicate (q) (mkW 2))) false true]⟩ = some (.normal, ⟨4, [(0, .optr 0 0), (3, int64 1)], [.rich (bookW 2 (.osl 1 0 3 2 none)), .rich [nilS, .osl 2 0 4 q none, int64 1, nilS, .osl 3 0 4 q none, int64 2], .fix (t5.row (List.replicate (q) (mkW 1))) false true, .fix (t5.row (List.replicate (q) (mkW 2))) false true, .rich [nilS, .osl 2 0 4 q none, int64 1]]⟩) := by
 have e1 : IntKind.wrap .i64 1 = 1 := by decide
 have e2 : IntKind.wrap .i64 40 = 40 := wrapI64 (by omega) (by omega)
 have hqi : (q : Int) = 40 := by omega
 have hl := zh2 (ext := ext) h q hq (s := ⟨4, [(0, .optr 0 0), (3, int64 0), (4, .optr 4 0), (5, int64 0)], [.rich (bookW 2 (.osl 1 0 3 2 none)), .rich [nilS, .osl 2 0 4 q none, int64 1, nilS, .osl 3 0 4 q none, int64 2], .fix (t5.row (List.replicate (q) (mkW 1))) false true, .fix (t5.row (List.replicate (q) (mkW 2))) false true, .rich [nilS, .osl 2 0 4 q none, int64 1]]⟩) (by
  generalize t5.row (List.replicate (q) (mkW 2)) = H0
  generalize t5.row (List.replicate (q) (mkW 1)) = H1
  simp -implicitDefEqProofs [bookW, nilS])
 simp only [bookW, nilS] at hl
 generalize t5.row (List.replicate (q) (mkW 2)) = H0 at *
 generalize t5.row (List.replicate (q) (mkW 1)) = H1 at *
 simp -implicitDefEqProofs [x85L2, e1, e2, hl, hqi, bookW, nilS]
theorem zh4 (h : MarkCode code ext) (q : Nat) (hq : q = 40)  {s : St}
  (hst : s.tidy [0, 3, 4, 5] = ⟨4, [(0, .optr 0 0), (3, int64 1), (4, .optr 4 0), (5, int64 0)], [.rich (bookW 2 (.osl 1 0 3 2 none)), .rich [nilS, .osl 2 0 4 q none, int64 1, nilS, .osl 3 0 4 q none, int64 2], .fix (t5.row (List.replicate (q) (mkW 1))) false true, .fix (t5.row (List.replicate (q) (mkW 2))) false true, .rich [nilS, .osl 3 0 4 q none, int64 2]]⟩) :
  den code ext (.loop [0, 3, 4, 5] x85L1) s = some (.exit 2, ⟨4, [(0, .optr 0 0), (3, int64 1), (4, .optr 4 0), (5, int64 (q : Nat)), (34, avb false)], [.rich (bookW 2 (.osl 1 0 3 2 none)), .rich [nilS, .osl 2 0 4 q none, int64 1, nilS, .osl 3 0 4 q none, int64 2], .fix (t5.row (List.replicate (q) (mkW 1))) false true, .fix (t5.row (List.replicate (q) (mkW 2))) false true, .rich [nilS, .osl 3 0 4 q none, int64 2]]⟩) := by
 obtain ⟨e, s', h2, _, rfl, rfl⟩ := zh9 (code := code) (ext := ext) (keep := [0, 3, 4, 5]) (b := x85L1) (fun c s => ∃ j : Nat, j + c = q ∧ s.tidy [0, 3, 4, 5] = ⟨4, [(0, .optr 0 0), (3, int64 1), (4, .optr 4 0), (5, int64 (j : Nat))], [.rich (bookW 2 (.osl 1 0 3 2 none)), .rich [nilS, .osl 2 0 4 q none, int64 1, nilS, .osl 3 0 4 q none, int64 2], .fix (t5.row (List.replicate (q) (mkW 1))) false true, .fix (t5.row (List.replicate (q) (mkW 2))) false true, .rich [nilS, .osl 3 0 4 q none, int64 2]]⟩)
  (fun e s' => e = .exit 2 ∧ s' = ⟨4, [(0, .optr 0 0), (3, int64 1), (4, .optr 4 0), (5, int64 (q : Nat)), (34, avb false)], [.rich (bookW 2 (.osl 1 0 3 2 none)), .rich [nilS, .osl 2 0 4 q none, int64 1, nilS, .osl 3 0 4 q none, int64 2], .fix (t5.row (List.replicate (q) (mkW 1))) false true, .fix (t5.row (List.replicate (q) (mkW 2))) false true, .rich [nilS, .osl 3 0 4 q none, int64 2]]⟩) (fun c s => by
  rintro ⟨j, hj, hst⟩
  rw [hst]
  have his := zg3 (ext := ext) h
  by_cases hlt : j < q
  ·have e1 : IntKind.wrap .i64 ((j : Int) + 1) = (j : Int) + 1 := wrapI64 (by omega) (by omega)
   have hlt' : (j : Int) < (q : Nat) := by omega
   have hlt2 : (j : Int) < (q : Int) := by omega
   have hc1 := znt 2 hlt
   have hl' : ¬ ((j : Int) < 0) := by omega
   refine ⟨.normal, ⟨4, [(0, .optr 0 0), (3, int64 1), (4, .optr 4 0), (5, int64 ((j : Int) + 1))], [.rich (bookW 2 (.osl 1 0 3 2 none)), .rich [nilS, .osl 2 0 4 q none, int64 1, nilS, .osl 3 0 4 q none, int64 2], .fix (t5.row (List.replicate (q) (mkW 1))) false true, .fix (t5.row (List.replicate (q) (mkW 2))) false true, .rich [nilS, .osl 3 0 4 q none, int64 2]]⟩, ?_, .inl ⟨rfl, c - 1, by omega, j + 1, by omega, ?_⟩⟩
   generalize t5.row (List.replicate (q) (mkW 1)) = H0 at *
   generalize t5.row (List.replicate (q) (mkW 2)) = H1 at *
   ·simp -implicitDefEqProofs [x85L1, hlt', hlt2, hlt, his, hc1, hl', e1, bookW, nilS]
   ·simp -implicitDefEqProofs [bookW, nilS]
  ·have : j = q := by omega
   subst this
   refine ⟨.exit 2, _, ?_, .inr ⟨by simp, rfl, rfl⟩⟩
   simp -implicitDefEqProofs [x85L1, bookW, nilS]) (q) s ⟨0, by simp, hst⟩
 exact h2
theorem zh3 (h : MarkCode code ext) (q : Nat) (hq : q = 40)  :
  den code ext x85L2 ⟨4, [(0, .optr 0 0), (3, int64 1)], [.rich (bookW 2 (.osl 1 0 3 2 none)), .rich [nilS, .osl 2 0 4 q none, int64 1, nilS, .osl 3 0 4 q none, int64 2], .fix (t5.row (List.replicate (q) (mkW 1))) false true, .fix (t5.row (List.replicate (q) (mkW 2))) false true]⟩ = some (.normal, ⟨4, [(0, .optr 0 0), (3, int64 2)], [.rich (bookW 2 (.osl 1 0 3 2 none)), .rich [nilS, .osl 2 0 4 q none, int64 1, nilS, .osl 3 0 4 q none, int64 2], .fix (t5.row (List.replicate (q) (mkW 1))) false true, .fix (t5.row (List.replicate (q) (mkW 2))) false true, .rich [nilS, .osl 3 0 4 q none, int64 2]]⟩) := by
 have e1 : IntKind.wrap .i64 2 = 2 := by decide
 have e2 : IntKind.wrap .i64 40 = 40 := wrapI64 (by omega) (by omega)
 have hqi : (q : Int) = 40 := by omega
 have hl := zh4 (ext := ext) h q hq (s := ⟨4, [(0, .optr 0 0), (3, int64 1), (4, .optr 4 0), (5, int64 0)], [.rich (bookW 2 (.osl 1 0 3 2 none)), .rich [nilS, .osl 2 0 4 q none, int64 1, nilS, .osl 3 0 4 q none, int64 2], .fix (t5.row (List.replicate (q) (mkW 1))) false true, .fix (t5.row (List.replicate (q) (mkW 2))) false true, .rich [nilS, .osl 3 0 4 q none, int64 2]]⟩) (by
  generalize t5.row (List.replicate (q) (mkW 1)) = H0
  generalize t5.row (List.replicate (q) (mkW 2)) = H1
  simp -implicitDefEqProofs [bookW, nilS])
 simp only [bookW, nilS] at hl
 generalize t5.row (List.replicate (q) (mkW 1)) = H0 at *
 generalize t5.row (List.replicate (q) (mkW 2)) = H1 at *
 simp -implicitDefEqProofs [x85L2, e1, e2, hl, hqi, bookW, nilS]
theorem zh5 (h : MarkCode code ext) (h85 : code 85 = some x85) (q : Nat) (hq : q = 40)  :
  callW code ext 85 [.optr 0 0] [.rich (bookW 2 (.osl 1 0 3 2 none)), .rich [nilS, .osl 2 0 4 q none, int64 1, nilS, .osl 3 0 4 q none, int64 2], .fix (t5.row (List.replicate (q) (mkW 1))) false true, .fix (t5.row (List.replicate (q) (mkW 2))) false true] = some (avb true, [.rich (bookW 2 (.osl 1 0 3 2 none)), .rich [nilS, .osl 2 0 4 q none, int64 1, nilS, .osl 3 0 4 q none, int64 2], .fix (t5.row (List.replicate (q) (mkW 1))) false true, .fix (t5.row (List.replicate (q) (mkW 2))) false true]) := by
 have i0 := zh1 (ext := ext) h q hq
 have i1 := zh3 (ext := ext) h q hq
 have hT : ∀ (i : Int) (J : Mem), J = [] ∨ J = [.rich [nilS, .osl 2 0 4 q none, int64 1]] ∨ J = [.rich [nilS, .osl 3 0 4 q none, int64 2]] → (⟨4, [(0, .optr 0 0), (3, int64 i)], [.rich (bookW 2 (.osl 1 0 3 2 none)), .rich [nilS, .osl 2 0 4 q none, int64 1, nilS, .osl 3 0 4 q none, int64 2], .fix (t5.row (List.replicate (q) (mkW 1))) false true, .fix (t5.row (List.replicate (q) (mkW 2))) false true] ++ J⟩ : St).tidy [0, 3] = ⟨4, [(0, .optr 0 0), (3, int64 i)], [.rich (bookW 2 (.osl 1 0 3 2 none)), .rich [nilS, .osl 2 0 4 q none, int64 1, nilS, .osl 3 0 4 q none, int64 2], .fix (t5.row (List.replicate (q) (mkW 1))) false true, .fix (t5.row (List.replicate (q) (mkW 2))) false true]⟩ := by
  intro i J hJ
  clear i0 i1
  generalize t5.row (List.replicate (q) (mkW 1)) = H0
  generalize t5.row (List.replicate (q) (mkW 2)) = H1
  rcases hJ with rfl | rfl | rfl <;> simp -implicitDefEqProofs [bookW, nilS]
 have i3 : ∀ M : Mem, M = [.rich (bookW 2 (.osl 1 0 3 2 none)), .rich [nilS, .osl 2 0 4 q none, int64 1, nilS, .osl 3 0 4 q none, int64 2], .fix (t5.row (List.replicate (q) (mkW 1))) false true, .fix (t5.row (List.replicate (q) (mkW 2))) false true] → ∃ e, den code ext x85L2 ⟨4, [(0, .optr 0 0), (3, int64 2)], M⟩ = some (.exit 0, ⟨4, e, M⟩) := by
  rintro M rfl
  clear i0 i1 hT
  exact ⟨[(0, .optr 0 0), (3, int64 2), (12, avb false)], by
   generalize t5.row (List.replicate (q) (mkW 1)) = H0
   generalize t5.row (List.replicate (q) (mkW 2)) = H1
   simp -implicitDefEqProofs [x85L2, bookW, nilS]⟩
 obtain ⟨e, i3⟩ := i3 _ rfl
 have hL : den code ext (.loop [0, 3] x85L2) ⟨4, [(0, .optr 0 0), (3, int64 0)], [.rich (bookW 2 (.osl 1 0 3 2 none)), .rich [nilS, .osl 2 0 4 q none, int64 1, nilS, .osl 3 0 4 q none, int64 2], .fix (t5.row (List.replicate (q) (mkW 1))) false true, .fix (t5.row (List.replicate (q) (mkW 2))) false true]⟩ = some (.exit 0, ⟨4, e, [.rich (bookW 2 (.osl 1 0 3 2 none)), .rich [nilS, .osl 2 0 4 q none, int64 1, nilS, .osl 3 0 4 q none, int64 2], .fix (t5.row (List.replicate (q) (mkW 1))) false true, .fix (t5.row (List.replicate (q) (mkW 2))) false true]⟩) := by
  have t0 := hT 0 [] (.inl rfl)
  have t1 := hT 1 _ (.inr (.inl rfl))
  have t2 := hT 2 _ (.inr (.inr rfl))
  simp only [List.cons_append, List.nil_append] at t0 t1 t2
  rw [zcp, t0, i0]
  simp only [andThen]
  rw [zcp, t1, i1]
  simp only [andThen]
  rw [zcp, t2, i3]
  rfl
 clear hT i0 i1 i3
 rw [zbi code ext h85]
 simp only [bookW, nilS] at hL
 generalize t5.row (List.replicate (q) (mkW 1)) = H0 at *
 generalize t5.row (List.replicate (q) (mkW 2)) = H1 at *
 simp -implicitDefEqProofs [x85, hL, bookW, nilS]
end
end Go.EX


set_option linter.unusedVariables false
set_option linter.unusedSimpArgs false
namespace Go.EX
section
variable {code : Nat → Option XFun} {ext : Calls'}
theorem zi4 (h : code 16 = some x16) {B : List AV} {rest : Mem} (hB : B[19]? = some (.imm (.val (.slice none 0 0)))) : callW code ext 16 [.optr 0 0] (.rich B :: rest) = some (.tup [], .rich B :: rest) := by
 rw [zbi code ext h]
 simp -implicitDefEqProofs [x16, x16L2, zcp, hB]
theorem zi5 (h : code 17 = some x17) {B : List AV} {rest : Mem} (hB : B[8]? = some (.imm (.val (.slice none 0 0)))) : callW code ext 17 [.optr 0 0] (.rich B :: rest) = some (.tup [], .rich B :: rest) := by
 rw [zbi code ext h]
 simp -implicitDefEqProofs [x17, x17L2, zcp, hB]
theorem zi6 (h : code 18 = some x18) {B : List AV} {rest : Mem} (hB : B[7]? = some (.imm (.val (.slice none 0 0)))) : callW code ext 18 [.optr 0 0] (.rich B :: rest) = some (.tup [], .rich B :: rest) := by
 rw [zbi code ext h]
 simp -implicitDefEqProofs [x18, x18L2, zcp, hB]
theorem zi7 (h : code 19 = some x19) {B : List AV} {rest : Mem} (hB : B[17]? = some (.imm (.val (.slice none 0 0)))) : callW code ext 19 [.optr 0 0] (.rich B :: rest) = some (.tup [], .rich B :: rest) := by
 rw [zbi code ext h]
 simp -implicitDefEqProofs [x19, x19L2, zcp, hB]
theorem zi8 (h : code 20 = some x20) {B : List AV} {rest : Mem} (hB : B[16]? = some (.imm (.val (.slice none 0 0)))) : callW code ext 20 [.optr 0 0] (.rich B :: rest) = some (.tup [], .rich B :: rest) := by
 rw [zbi code ext h]
 simp -implicitDefEqProofs [x20, x20L2, zcp, hB]
theorem zi9 (h : code 21 = some x21) {B : List AV} {rest : Mem} (hB : B[11]? = some (.imm (.val (.slice none 0 0)))) : callW code ext 21 [.optr 0 0] (.rich B :: rest) = some (.tup [], .rich B :: rest) := by
 rw [zbi code ext h]
 simp -implicitDefEqProofs [x21, x21L2, zcp, hB]
theorem zja (h : code 22 = some x22) {B : List AV} {rest : Mem} (hB : B[10]? = some (.imm (.val (.slice none 0 0)))) : callW code ext 22 [.optr 0 0] (.rich B :: rest) = some (.tup [], .rich B :: rest) := by
 rw [zbi code ext h]
 simp -implicitDefEqProofs [x22, x22L2, zcp, hB]
theorem zjb (h : code 23 = some x23) {B : List AV} {rest : Mem} (hB : B[9]? = some (.imm (.val (.slice none 0 0)))) : callW code ext 23 [.optr 0 0] (.rich B :: rest) = some (.tup [], .rich B :: rest) := by
 rw [zbi code ext h]
 simp -implicitDefEqProofs [x23, x23L2, zcp, hB]
theorem zjc (h : code 24 = some x24) {B : List AV} {rest : Mem} (hB : B[6]? = some (.imm (.val (.slice none 0 0)))) : callW code ext 24 [.optr 0 0] (.rich B :: rest) = some (.tup [], .rich B :: rest) := by
 rw [zbi code ext h]
 simp -implicitDefEqProofs [x24, x24L2, zcp, hB]
theorem zjd (h : code 25 = some x25) {B : List AV} {rest : Mem} (hB : B[1]? = some (.imm (.val (.slice none 0 0)))) : callW code ext 25 [.optr 0 0] (.rich B :: rest) = some (.tup [], .rich B :: rest) := by
 rw [zbi code ext h]
 simp -implicitDefEqProofs [x25, x25L2, zcp, hB]
theorem zje (h : code 26 = some x26) {B : List AV} {rest : Mem} (hB : B[15]? = some (.imm (.val (.slice none 0 0)))) : callW code ext 26 [.optr 0 0] (.rich B :: rest) = some (.tup [], .rich B :: rest) := by
 rw [zbi code ext h]
 simp -implicitDefEqProofs [x26, x26L2, zcp, hB]
theorem zjf (h : code 27 = some x27) {B : List AV} {rest : Mem} (hB : B[18]? = some (.imm (.val (.slice none 0 0)))) : callW code ext 27 [.optr 0 0] (.rich B :: rest) = some (.tup [], .rich B :: rest) := by
 rw [zbi code ext h]
 simp -implicitDefEqProofs [x27, x27L2, zcp, hB]
theorem zjg (h : code 28 = some x28) {B : List AV} {rest : Mem} (hB : B[5]? = some (.imm (.val (.slice none 0 0)))) : callW code ext 28 [.optr 0 0] (.rich B :: rest) = some (.tup [], .rich B :: rest) := by
 rw [zbi code ext h]
 simp -implicitDefEqProofs [x28, x28L2, zcp, hB]
theorem zjh (h : code 29 = some x29) {B : List AV} {rest : Mem} (hB : B[2]? = some (.imm (.val (.slice none 0 0)))) : callW code ext 29 [.optr 0 0] (.rich B :: rest) = some (.tup [], .rich B :: rest) := by
 rw [zbi code ext h]
 simp -implicitDefEqProofs [x29, x29L2, zcp, hB]
theorem zji (h : code 30 = some x30) {B : List AV} {rest : Mem} (hB : B[14]? = some (.imm (.val (.slice none 0 0)))) : callW code ext 30 [.optr 0 0] (.rich B :: rest) = some (.tup [], .rich B :: rest) := by
 rw [zbi code ext h]
 simp -implicitDefEqProofs [x30, x30L2, zcp, hB]
theorem zjj (h : code 31 = some x31) {B : List AV} {rest : Mem} (hB : B[20]? = some (.imm (.val (.slice none 0 0)))) : callW code ext 31 [.optr 0 0] (.rich B :: rest) = some (.tup [], .rich B :: rest) := by
 rw [zbi code ext h]
 simp -implicitDefEqProofs [x31, x31L2, zcp, hB]
theorem zjk (h : code 32 = some x32) {B : List AV} {rest : Mem} (hB : B[12]? = some (.imm (.val (.slice none 0 0)))) : callW code ext 32 [.optr 0 0] (.rich B :: rest) = some (.tup [], .rich B :: rest) := by
 rw [zbi code ext h]
 simp -implicitDefEqProofs [x32, x32L2, zcp, hB]
theorem zjl (h : code 33 = some x33) {B : List AV} {rest : Mem} (hB : B[3]? = some (.imm (.val (.slice none 0 0)))) : callW code ext 33 [.optr 0 0] (.rich B :: rest) = some (.tup [], .rich B :: rest) := by
 rw [zbi code ext h]
 simp -implicitDefEqProofs [x33, x33L2, zcp, hB]
theorem zjm (h : code 34 = some x34) {B : List AV} {rest : Mem} (hB : B[4]? = some (.imm (.val (.slice none 0 0)))) : callW code ext 34 [.optr 0 0] (.rich B :: rest) = some (.tup [], .rich B :: rest) := by
 rw [zbi code ext h]
 simp -implicitDefEqProofs [x34, x34L2, zcp, hB]
theorem zjn (h : code 36 = some x36) {B : List AV} {rest : Mem} (hB : B[19]? = some (.imm (.val (.slice none 0 0)))) : callW code ext 36 [.optr 0 0] (.rich B :: rest) = some (.tup [], .rich B :: rest) := by
 rw [zbi code ext h]
 simp -implicitDefEqProofs [x36, x36L2, zcp, hB]
theorem zjo (h : code 37 = some x37) {B : List AV} {rest : Mem} (hB : B[8]? = some (.imm (.val (.slice none 0 0)))) : callW code ext 37 [.optr 0 0] (.rich B :: rest) = some (.tup [], .rich B :: rest) := by
 rw [zbi code ext h]
 simp -implicitDefEqProofs [x37, x37L2, zcp, hB]
theorem zjp (h : code 38 = some x38) {B : List AV} {rest : Mem} (hB : B[7]? = some (.imm (.val (.slice none 0 0)))) : callW code ext 38 [.optr 0 0] (.rich B :: rest) = some (.tup [], .rich B :: rest) := by
 rw [zbi code ext h]
 simp -implicitDefEqProofs [x38, x38L2, zcp, hB]
theorem zjq (h : code 39 = some x39) {B : List AV} {rest : Mem} (hB : B[17]? = some (.imm (.val (.slice none 0 0)))) : callW code ext 39 [.optr 0 0] (.rich B :: rest) = some (.tup [], .rich B :: rest) := by
 rw [zbi code ext h]
 simp -implicitDefEqProofs [x39, x39L2, zcp, hB]
theorem zjr (h : code 40 = some x40) {B : List AV} {rest : Mem} (hB : B[16]? = some (.imm (.val (.slice none 0 0)))) : callW code ext 40 [.optr 0 0] (.rich B :: rest) = some (.tup [], .rich B :: rest) := by
 rw [zbi code ext h]
 simp -implicitDefEqProofs [x40, x40L2, zcp, hB]
theorem zjs (h : code 41 = some x41) {B : List AV} {rest : Mem} (hB : B[11]? = some (.imm (.val (.slice none 0 0)))) : callW code ext 41 [.optr 0 0] (.rich B :: rest) = some (.tup [], .rich B :: rest) := by
 rw [zbi code ext h]
 simp -implicitDefEqProofs [x41, x41L2, zcp, hB]
theorem zjt (h : code 42 = some x42) {B : List AV} {rest : Mem} (hB : B[10]? = some (.imm (.val (.slice none 0 0)))) : callW code ext 42 [.optr 0 0] (.rich B :: rest) = some (.tup [], .rich B :: rest) := by
 rw [zbi code ext h]
 simp -implicitDefEqProofs [x42, x42L2, zcp, hB]
theorem zju (h : code 43 = some x43) {B : List AV} {rest : Mem} (hB : B[9]? = some (.imm (.val (.slice none 0 0)))) : callW code ext 43 [.optr 0 0] (.rich B :: rest) = some (.tup [], .rich B :: rest) := by
 rw [zbi code ext h]
 simp -implicitDefEqProofs [x43, x43L2, zcp, hB]
theorem zjv (h : code 44 = some x44) {B : List AV} {rest : Mem} (hB : B[6]? = some (.imm (.val (.slice none 0 0)))) : callW code ext 44 [.optr 0 0] (.rich B :: rest) = some (.tup [], .rich B :: rest) := by
 rw [zbi code ext h]
 simp -implicitDefEqProofs [x44, x44L2, zcp, hB]
theorem zjw (h : code 45 = some x45) {B : List AV} {rest : Mem} (hB : B[1]? = some (.imm (.val (.slice none 0 0)))) : callW code ext 45 [.optr 0 0] (.rich B :: rest) = some (.tup [], .rich B :: rest) := by
 rw [zbi code ext h]
 simp -implicitDefEqProofs [x45, x45L2, zcp, hB]
theorem zjx (h : code 46 = some x46) {B : List AV} {rest : Mem} (hB : B[15]? = some (.imm (.val (.slice none 0 0)))) : callW code ext 46 [.optr 0 0] (.rich B :: rest) = some (.tup [], .rich B :: rest) := by
 rw [zbi code ext h]
 simp -implicitDefEqProofs [x46, x46L2, zcp, hB]
theorem zjy (h : code 47 = some x47) {B : List AV} {rest : Mem} (hB : B[18]? = some (.imm (.val (.slice none 0 0)))) : callW code ext 47 [.optr 0 0] (.rich B :: rest) = some (.tup [], .rich B :: rest) := by
 rw [zbi code ext h]
 simp -implicitDefEqProofs [x47, x47L2, zcp, hB]
theorem zjz (h : code 48 = some x48) {B : List AV} {rest : Mem} (hB : B[5]? = some (.imm (.val (.slice none 0 0)))) : callW code ext 48 [.optr 0 0] (.rich B :: rest) = some (.tup [], .rich B :: rest) := by
 rw [zbi code ext h]
 simp -implicitDefEqProofs [x48, x48L2, zcp, hB]
theorem zj0 (h : code 49 = some x49) {B : List AV} {rest : Mem} (hB : B[2]? = some (.imm (.val (.slice none 0 0)))) : callW code ext 49 [.optr 0 0] (.rich B :: rest) = some (.tup [], .rich B :: rest) := by
 rw [zbi code ext h]
 simp -implicitDefEqProofs [x49, x49L2, zcp, hB]
theorem zj1 (h : code 50 = some x50) {B : List AV} {rest : Mem} (hB : B[14]? = some (.imm (.val (.slice none 0 0)))) : callW code ext 50 [.optr 0 0] (.rich B :: rest) = some (.tup [], .rich B :: rest) := by
 rw [zbi code ext h]
 simp -implicitDefEqProofs [x50, x50L2, zcp, hB]
theorem zj2 (h : code 51 = some x51) {B : List AV} {rest : Mem} (hB : B[20]? = some (.imm (.val (.slice none 0 0)))) : callW code ext 51 [.optr 0 0] (.rich B :: rest) = some (.tup [], .rich B :: rest) := by
 rw [zbi code ext h]
 simp -implicitDefEqProofs [x51, x51L2, zcp, hB]
theorem zj3 (h : code 52 = some x52) {B : List AV} {rest : Mem} (hB : B[12]? = some (.imm (.val (.slice none 0 0)))) : callW code ext 52 [.optr 0 0] (.rich B :: rest) = some (.tup [], .rich B :: rest) := by
 rw [zbi code ext h]
 simp -implicitDefEqProofs [x52, x52L2, zcp, hB]
theorem zj4 (h : code 53 = some x53) {B : List AV} {rest : Mem} (hB : B[3]? = some (.imm (.val (.slice none 0 0)))) : callW code ext 53 [.optr 0 0] (.rich B :: rest) = some (.tup [], .rich B :: rest) := by
 rw [zbi code ext h]
 simp -implicitDefEqProofs [x53, x53L2, zcp, hB]
theorem zj5 (h : code 54 = some x54) {B : List AV} {rest : Mem} (hB : B[4]? = some (.imm (.val (.slice none 0 0)))) : callW code ext 54 [.optr 0 0] (.rich B :: rest) = some (.tup [], .rich B :: rest) := by
 rw [zbi code ext h]
 simp -implicitDefEqProofs [x54, x54L2, zcp, hB]
theorem zj6 (h : code 66 = some x66) {B : List AV} {rest : Mem} (hB : B[19]? = some (.imm (.val (.slice none 0 0)))) : callW code ext 66 [.optr 0 0] (.rich B :: rest) = some (avb true, .rich B :: rest) := by
 rw [zbi code ext h]
 simp -implicitDefEqProofs [x66, x66L2, zcp, hB]
theorem zj7 (h : code 67 = some x67) {B : List AV} {rest : Mem} (hB : B[8]? = some (.imm (.val (.slice none 0 0)))) : callW code ext 67 [.optr 0 0] (.rich B :: rest) = some (avb true, .rich B :: rest) := by
 rw [zbi code ext h]
 simp -implicitDefEqProofs [x67, x67L2, zcp, hB]
theorem zj8 (h : code 68 = some x68) {B : List AV} {rest : Mem} (hB : B[7]? = some (.imm (.val (.slice none 0 0)))) : callW code ext 68 [.optr 0 0] (.rich B :: rest) = some (avb true, .rich B :: rest) := by
 rw [zbi code ext h]
 simp -implicitDefEqProofs [x68, x68L2, zcp, hB]
theorem zj9 (h : code 69 = some x69) {B : List AV} {rest : Mem} (hB : B[17]? = some (.imm (.val (.slice none 0 0)))) : callW code ext 69 [.optr 0 0] (.rich B :: rest) = some (avb true, .rich B :: rest) := by
 rw [zbi code ext h]
 simp -implicitDefEqProofs [x69, x69L2, zcp, hB]
theorem zka (h : code 70 = some x70) {B : List AV} {rest : Mem} (hB : B[16]? = some (.imm (.val (.slice none 0 0)))) : callW code ext 70 [.optr 0 0] (.rich B :: rest) = some (avb true, .rich B :: rest) := by
 rw [zbi code ext h]
 simp -implicitDefEqProofs [x70, x70L2, zcp, hB]
theorem zkb (h : code 71 = some x71) {B : List AV} {rest : Mem} (hB : B[11]? = some (.imm (.val (.slice none 0 0)))) : callW code ext 71 [.optr 0 0] (.rich B :: rest) = some (avb true, .rich B :: rest) := by
 rw [zbi code ext h]
 simp -implicitDefEqProofs [x71, x71L2, zcp, hB]
theorem zkc (h : code 72 = some x72) {B : List AV} {rest : Mem} (hB : B[10]? = some (.imm (.val (.slice none 0 0)))) : callW code ext 72 [.optr 0 0] (.rich B :: rest) = some (avb true, .rich B :: rest) := by
 rw [zbi code ext h]
 simp -implicitDefEqProofs [x72, x72L2, zcp, hB]
theorem zkd (h : code 73 = some x73) {B : List AV} {rest : Mem} (hB : B[9]? = some (.imm (.val (.slice none 0 0)))) : callW code ext 73 [.optr 0 0] (.rich B :: rest) = some (avb true, .rich B :: rest) := by
 rw [zbi code ext h]
 simp -implicitDefEqProofs [x73, x73L2, zcp, hB]
theorem zke (h : code 74 = some x74) {B : List AV} {rest : Mem} (hB : B[6]? = some (.imm (.val (.slice none 0 0)))) : callW code ext 74 [.optr 0 0] (.rich B :: rest) = some (avb true, .rich B :: rest) := by
 rw [zbi code ext h]
 simp -implicitDefEqProofs [x74, x74L2, zcp, hB]
theorem zkf (h : code 75 = some x75) {B : List AV} {rest : Mem} (hB : B[1]? = some (.imm (.val (.slice none 0 0)))) : callW code ext 75 [.optr 0 0] (.rich B :: rest) = some (avb true, .rich B :: rest) := by
 rw [zbi code ext h]
 simp -implicitDefEqProofs [x75, x75L2, zcp, hB]
theorem zkg (h : code 76 = some x76) {B : List AV} {rest : Mem} (hB : B[15]? = some (.imm (.val (.slice none 0 0)))) : callW code ext 76 [.optr 0 0] (.rich B :: rest) = some (avb true, .rich B :: rest) := by
 rw [zbi code ext h]
 simp -implicitDefEqProofs [x76, x76L2, zcp, hB]
theorem zkh (h : code 77 = some x77) {B : List AV} {rest : Mem} (hB : B[18]? = some (.imm (.val (.slice none 0 0)))) : callW code ext 77 [.optr 0 0] (.rich B :: rest) = some (avb true, .rich B :: rest) := by
 rw [zbi code ext h]
 simp -implicitDefEqProofs [x77, x77L2, zcp, hB]
theorem zki (h : code 78 = some x78) {B : List AV} {rest : Mem} (hB : B[5]? = some (.imm (.val (.slice none 0 0)))) : callW code ext 78 [.optr 0 0] (.rich B :: rest) = some (avb true, .rich B :: rest) := by
 rw [zbi code ext h]
 simp -implicitDefEqProofs [x78, x78L2, zcp, hB]
theorem zkj (h : code 79 = some x79) {B : List AV} {rest : Mem} (hB : B[2]? = some (.imm (.val (.slice none 0 0)))) : callW code ext 79 [.optr 0 0] (.rich B :: rest) = some (avb true, .rich B :: rest) := by
 rw [zbi code ext h]
 simp -implicitDefEqProofs [x79, x79L2, zcp, hB]
theorem zkk (h : code 80 = some x80) {B : List AV} {rest : Mem} (hB : B[14]? = some (.imm (.val (.slice none 0 0)))) : callW code ext 80 [.optr 0 0] (.rich B :: rest) = some (avb true, .rich B :: rest) := by
 rw [zbi code ext h]
 simp -implicitDefEqProofs [x80, x80L2, zcp, hB]
theorem zkl (h : code 81 = some x81) {B : List AV} {rest : Mem} (hB : B[20]? = some (.imm (.val (.slice none 0 0)))) : callW code ext 81 [.optr 0 0] (.rich B :: rest) = some (avb true, .rich B :: rest) := by
 rw [zbi code ext h]
 simp -implicitDefEqProofs [x81, x81L2, zcp, hB]
theorem zkm (h : code 82 = some x82) {B : List AV} {rest : Mem} (hB : B[12]? = some (.imm (.val (.slice none 0 0)))) : callW code ext 82 [.optr 0 0] (.rich B :: rest) = some (avb true, .rich B :: rest) := by
 rw [zbi code ext h]
 simp -implicitDefEqProofs [x82, x82L2, zcp, hB]
theorem zkn (h : code 83 = some x83) {B : List AV} {rest : Mem} (hB : B[3]? = some (.imm (.val (.slice none 0 0)))) : callW code ext 83 [.optr 0 0] (.rich B :: rest) = some (avb true, .rich B :: rest) := by
 rw [zbi code ext h]
 simp -implicitDefEqProofs [x83, x83L2, zcp, hB]
theorem zko (h : code 84 = some x84) {B : List AV} {rest : Mem} (hB : B[4]? = some (.imm (.val (.slice none 0 0)))) : callW code ext 84 [.optr 0 0] (.rich B :: rest) = some (avb true, .rich B :: rest) := by
 rw [zbi code ext h]
 simp -implicitDefEqProofs [x84, x84L2, zcp, hB]
end
end Go.EX


set_option maxRecDepth 4000
set_option maxHeartbeats 4000000
set_option linter.unusedVariables false
set_option linter.unusedSimpArgs false
namespace Go.EX
structure HandsW (M : Mem) (l : List Nat) (M' : Mem) : Prop where
 ord : order 0 [0] M = l
 pick : M.pickAll l = M'
 closed : ∀ id ∈ l, ∀ j ∈ ((M[id]?).getD AObj.dead).refs, j ∈ l
 ok : shareOk M l = true
 all : ∀ id, id < M.length → id ∈ l ∨ ((M[id]?).getD AObj.dead).refs = []
 still : ((M[0]?).getD AObj.dead).moved = false
 zero : place l 0 = some 0
def OnlyW (e : Env) : Prop := ∀ p ∈ e, ∀ id ∈ p.2.refs, id = 0
theorem zk4 {f : Nat → Option Nat} (h0 : f 0 = some 0) : ∀ {e : Env}, OnlyW e → e.ren f = e
 | [], _ => rfl
 | (n, v) :: r, h => by
  have h1 : v.ren f = v := ren_id fun id hid => by rw [h (n, v) (by simp) id hid]; exact h0
  simp only [Env.ren, h1, zk4 h0 (e := r) fun p hp => h p (by simp [hp])]
theorem zk3 {e : Env} {n : Nat} {v : AV} (h : OnlyW e) (hv : ∀ id ∈ v.refs, id = 0) : OnlyW ((n, v) :: e) := by
 intro p hp
 rcases List.mem_cons.1 hp with rfl | hp
 ·exact hv
 ·exact h p hp
section
variable {code : Nat → Option XFun} {ext : Calls'}
theorem zgj {M M' : Mem} {l : List Nat} (hM : HandsW M l M') {k g : Nat} {e : Env} (he : OnlyW e) {r : AV} (hp : r.plain = true) (hc : callW code ext g [.optr 0 0] M' = some (r, M')) : exShare (callW code ext) ⟨k, e, M⟩ g [.optr 0 0] = some (r, ⟨k, e, M⟩) := by
 obtain ⟨f, h1, h2⟩ := zp6 (call := callW code ext) (s := ⟨k, e, M⟩) (fn := g) (args := [.optr 0 0]) (r := r) (l := l) hM.ord
  (by rw [show AV.ren.renL (place l) [.optr 0 0] = [.optr 0 0] by simp only [AV.ren.renL, AV.ren, hM.zero], hM.pick]; exact hc) hp hM.closed hM.ok hM.all
 refine h1.trans ?_
 show some (r, St.mk k (Env.ren f e) M) = _
 rw [zk4 (h2 0 hM.still) he]
theorem zan {M M' : Mem} {l : List Nat} (hM : HandsW M l M') {g : Nat} (hc : callW code ext g [.optr 0 0] M' = some (.tup [], M')) (k d d' : Nat) (hd : d ≠ 0) (hd' : d' ≠ 0) :
  den code ext (.region [0] [⟨some d, .mv (.t 0), none⟩, ⟨some d', .call .share g [.t d], none⟩]) ⟨k, [(0, .optr 0 0)], M⟩ = some (.normal, ⟨k, [(0, .optr 0 0)], M⟩) := by
 have he : OnlyW [(d, AV.optr 0 0), (0, AV.optr 0 0)] := by
  intro p hp; simp at hp; rcases hp with rfl | rfl <;> simp [AV.refs]
 have h := zgj (k := k) hM he rfl hc
 simp [-exShare, h, hd, hd']
 intro h0; exact absurd h0.symm hd'
theorem zh8 {M M' : Mem} {l : List Nat} (hM : HandsW M l M') {g : Nat} (hc : callW code ext g [.optr 0 0] M' = some (avb true, M')) (k a b c d f : Nat) (hb : b ≠ 0) (hc0 : c ≠ 0) (hd0 : d ≠ 0) (hf0 : f ≠ 0) (hab : a ≠ b) (hac : a ≠ c) (hcb : b ≠ c) (hdf : d ≠ f) (e : Env) (he : OnlyW e) (h0 : e.get 0 = .optr 0 0) (ha : e.get a = avb true) (rest : List XO) :
  ∃ e', OnlyW e' ∧ e'.get 0 = .optr 0 0 ∧ e'.get f = avb true ∧ exOps (callW code ext) ⟨k, e, M⟩ (⟨some b, .mv (.t 0), some (a, true)⟩ :: ⟨some c, .call .share g [.t b], some (a, true)⟩ :: ⟨some d, .pick (.t a) (.t c) (.c (.bool false)), none⟩ :: ⟨some f, .mv (.t d), none⟩ :: rest) = exOps (callW code ext) ⟨k, e', M⟩ rest := by
 have he1 : OnlyW ((b, AV.optr 0 0) :: e) := zk3 he (by simp [AV.refs])
 have h := zgj (k := k) hM he1 rfl hc
 refine ⟨(f, avb true) :: (d, avb true) :: (c, avb true) :: (b, .optr 0 0) :: e, zk3 (zk3 (zk3 he1 (by simp [AV.refs])) (by simp [AV.refs])) (by simp [AV.refs]), ?_, by simp [Env.get], ?_⟩
 ·simp [Env.get, Ne.symm hf0, Ne.symm hd0, Ne.symm hc0, Ne.symm hb, h0]
 ·have hba := Ne.symm hab
  have hca := Ne.symm hac
  simp [-exShare, h, h0, ha, hab, hac, hba, hca, hcb, Ne.symm hcb, hdf, Ne.symm hdf]
theorem handsWP0 (n : Nat) (m2 m3 : Bool) (v2 v3 : List W5) : HandsW [.rich (bookW 2 (.osl 1 0 3 2 none)), .rich [.osl 2 0 4 n none, nilS, int64 1, .osl 3 0 4 n none, nilS, int64 2], .flat (t5.row v2) m2, .flat (t5.row v3) m3] [0, 1, 2, 3] [.rich (bookW 2 (.osl 1 0 3 2 none)), .rich [.osl 2 0 4 n none, nilS, int64 1, .osl 3 0 4 n none, nilS, int64 2], .flat (t5.row v2) m2, .flat (t5.row v3) m3] := by
 generalize t5.row v2 = H0
 generalize t5.row v3 = H1
 refine ⟨by simp -implicitDefEqProofs [bookW, nilS], by simp -implicitDefEqProofs [bookW, nilS], by simp [bookW, nilS, AObj.refs, AV.refs, AV.refs.refsL], by simp [bookW, nilS, shareOk, AObj.isFix, List.range_succ], ?_, rfl, by decide⟩
 intro id hid
 simp at hid ⊢
 omega
theorem handsWP1 (n : Nat) (m2 m3 : Bool) : HandsW [.rich (bookW 2 (.osl 1 0 3 2 none)), .rich [.osl 2 0 4 n none, nilS, int64 1, .osl 3 0 4 n none, nilS, int64 2], .flat (t5.row (List.replicate (n) (mkW 1))) m2, .flat (t5.row (List.replicate (n) (mkW 2))) m3] [0, 1, 2, 3] [.rich (bookW 2 (.osl 1 0 3 2 none)), .rich [.osl 2 0 4 n none, nilS, int64 1, .osl 3 0 4 n none, nilS, int64 2], .flat (t5.row (List.replicate (n) (mkW 1))) m2, .flat (t5.row (List.replicate (n) (mkW 2))) m3] := by
 generalize t5.row (List.replicate (n) (mkW 1)) = H0
 generalize t5.row (List.replicate (n) (mkW 2)) = H1
 refine ⟨by simp -implicitDefEqProofs [bookW, nilS], by simp -implicitDefEqProofs [bookW, nilS], by simp [bookW, nilS, AObj.refs, AV.refs, AV.refs.refsL], by simp [bookW, nilS, shareOk, AObj.isFix, List.range_succ], ?_, rfl, by decide⟩
 intro id hid
 simp at hid ⊢
 omega
theorem handsWP2 (n : Nat) (m2 m3 : Bool) : HandsW [.rich (bookW 2 (.osl 1 0 3 2 none)), .rich [.osl 2 0 4 n none, .osl 4 0 4 (n + 40) none, int64 1, .osl 3 0 4 n none, .osl 5 0 4 (n + 40) none, int64 2], .fix (t5.row (List.replicate (n) (mkW 1))) m2 false, .fix (t5.row (List.replicate (n) (mkW 2))) m3 false, .fix (t5.row (List.replicate (n + 40) (mkW 1))) false true, .fix (t5.row (List.replicate (n + 40) (mkW 2))) false true] [0, 1, 2, 4, 3, 5] [.rich (bookW 2 (.osl 1 0 3 2 none)), .rich [.osl 2 0 4 n none, .osl 3 0 4 (n + 40) none, int64 1, .osl 4 0 4 n none, .osl 5 0 4 (n + 40) none, int64 2], .fix (t5.row (List.replicate (n) (mkW 1))) m2 false, .fix (t5.row (List.replicate (n + 40) (mkW 1))) false true, .fix (t5.row (List.replicate (n) (mkW 2))) m3 false, .fix (t5.row (List.replicate (n + 40) (mkW 2))) false true] := by
 generalize t5.row (List.replicate (n) (mkW 1)) = H0
 generalize t5.row (List.replicate (n) (mkW 2)) = H1
 generalize t5.row (List.replicate (n + 40) (mkW 1)) = H2
 generalize t5.row (List.replicate (n + 40) (mkW 2)) = H3
 refine ⟨by simp -implicitDefEqProofs [bookW, nilS], by simp -implicitDefEqProofs [bookW, nilS], by simp [bookW, nilS, AObj.refs, AV.refs, AV.refs.refsL], by simp [bookW, nilS, shareOk, AObj.isFix, List.range_succ], ?_, rfl, by decide⟩
 intro id hid
 simp at hid ⊢
 omega
theorem zah (h : MarkCode code ext) (h35 : code 35 = some x35) (n : Nat) (m2 m3 : Bool) (v2 v3 : List W5) (hv2 : v2.length = n) (hv3 : v3.length = n) (hn : n ≤ 1000000) (d d' : Nat) (hd : d ≠ 0) (hd' : d' ≠ 0) :
  den code ext (.region [0] [⟨some d, .mv (.t 0), none⟩, ⟨some d', .call .share 35 [.t d], none⟩]) ⟨4, [(0, .optr 0 0)], [.rich (bookW 2 (.osl 1 0 3 2 none)), .rich [.osl 2 0 4 n none, nilS, int64 1, .osl 3 0 4 n none, nilS, int64 2], .flat (t5.row v2) m2, .flat (t5.row v3) m3]⟩ = some (.normal, ⟨4, [(0, .optr 0 0)], [.rich (bookW 2 (.osl 1 0 3 2 none)), .rich [.osl 2 0 4 n none, nilS, int64 1, .osl 3 0 4 n none, nilS, int64 2], .flat (t5.row (List.replicate (n) (mkW 1))) m2, .flat (t5.row (List.replicate (n) (mkW 2))) m3]⟩) := by
 have hf := zet (ext := ext) h h35 n m2 m3 v2 v3 hv2 hv3 hn
 simp only [bookW, nilS] at hf
 generalize t5.row v2 = H0 at *
 generalize t5.row v3 = H1 at *
 generalize t5.row (List.replicate (n) (mkW 1)) = H2 at *
 generalize t5.row (List.replicate (n) (mkW 2)) = H3 at *
 simp -implicitDefEqProofs [hf, hd, hd', Ne.symm hd', bookW, nilS]
theorem zai (h : MarkCode code ext) (h55 : code 55 = some x55) (n : Nat) (m2 m3 : Bool) (hn : n ≤ 1000000) (d d' : Nat) (hd : d ≠ 0) (hd' : d' ≠ 0) :
  den code ext (.region [0] [⟨some d, .mv (.t 0), none⟩, ⟨some d', .call .share 55 [.t d], none⟩]) ⟨4, [(0, .optr 0 0)], [.rich (bookW 2 (.osl 1 0 3 2 none)), .rich [.osl 2 0 4 n none, nilS, int64 1, .osl 3 0 4 n none, nilS, int64 2], .flat (t5.row (List.replicate (n) (mkW 1))) m2, .flat (t5.row (List.replicate (n) (mkW 2))) m3]⟩ = some (.normal, ⟨4, [(0, .optr 0 0)], [.rich (bookW 2 (.osl 1 0 3 2 none)), .rich [.osl 2 0 4 n none, .osl 4 0 4 (n + 40) none, int64 1, .osl 3 0 4 n none, .osl 5 0 4 (n + 40) none, int64 2], .fix (t5.row (List.replicate (n) (mkW 1))) m2 false, .fix (t5.row (List.replicate (n) (mkW 2))) m3 false, .fix (t5.row (List.replicate (n + 40) (mkW 1))) false true, .fix (t5.row (List.replicate (n + 40) (mkW 2))) false true]⟩) := by
 have hf := zf6 (ext := ext) h h55 n m2 m3 hn
 simp only [bookW, nilS] at hf
 generalize t5.row (List.replicate (n) (mkW 1)) = H0 at *
 generalize t5.row (List.replicate (n) (mkW 2)) = H1 at *
 generalize t5.row (List.replicate (n + 40) (mkW 1)) = H2 at *
 generalize t5.row (List.replicate (n + 40) (mkW 2)) = H3 at *
 simp -implicitDefEqProofs [hf, hd, hd', Ne.symm hd', bookW, nilS]
theorem zaj (hM : MarkCode code ext) (h : ∀ g f, code5z g = some f → code g = some f) (n : Nat) (m2 m3 : Bool) (v2 v3 : List W5) (hv2 : v2.length = n) (hv3 : v3.length = n) (hn : n ≤ 1000000) : ∃ mo : Mem, callW code ext 1 [.optr 0 0] [.rich (bookW 2 (.osl 1 0 3 2 none)), .rich [.osl 2 0 4 n none, nilS, int64 1, .osl 3 0 4 n none, nilS, int64 2], .flat (t5.row v2) m2, .flat (t5.row v3) m3] = some (avb true, mo) := by
 have H0 := handsWP0 n m2 m3 v2 v3
 have H1 := handsWP1 n m2 m3
 have H2 := handsWP2 n m2 m3
 have w0 := fun d d' hd hd' => zah (ext := ext) hM (h 35 _ rfl) n m2 m3 v2 v3 hv2 hv3 hn d d' hd hd'
 have w1 := fun d d' hd hd' => zai (ext := ext) hM (h 55 _ rfl) n m2 m3 hn d d' hd hd'
 have hlk := zh0 (ext := ext) hM (h 85 _ rfl) n m2 m3 hn
 rw [zbi code ext (h 1 _ rfl)]
 simp only [x1, enter, List.length_cons, List.length_nil]
 rw [zct, show den code ext (.region [0] [⟨some 2, .mv (.c (.bool false)), none⟩]) ⟨4, [(0, .optr 0 0)], [.rich (bookW 2 (.osl 1 0 3 2 none)), .rich [.osl 2 0 4 n none, nilS, int64 1, .osl 3 0 4 n none, nilS, int64 2], .flat (t5.row v2) m2, .flat (t5.row v3) m3]⟩ = some (.normal, ⟨4, [(0, .optr 0 0)], [.rich (bookW 2 (.osl 1 0 3 2 none)), .rich [.osl 2 0 4 n none, nilS, int64 1, .osl 3 0 4 n none, nilS, int64 2], .flat (t5.row v2) m2, .flat (t5.row v3) m3]⟩) by simp]
 simp only [andThen]
 rw [zct, zan H0 (zjd (h 25 x25 rfl) rfl) _ _ _ (by decide) (by decide)]
 simp only [andThen]
 rw [zct, zan H0 (zjh (h 29 x29 rfl) rfl) _ _ _ (by decide) (by decide)]
 simp only [andThen]
 rw [zct, zan H0 (zjl (h 33 x33 rfl) rfl) _ _ _ (by decide) (by decide)]
 simp only [andThen]
 rw [zct, zan H0 (zjm (h 34 x34 rfl) rfl) _ _ _ (by decide) (by decide)]
 simp only [andThen]
 rw [zct, zan H0 (zjg (h 28 x28 rfl) rfl) _ _ _ (by decide) (by decide)]
 simp only [andThen]
 rw [zct, zan H0 (zjc (h 24 x24 rfl) rfl) _ _ _ (by decide) (by decide)]
 simp only [andThen]
 rw [zct, zan H0 (zi6 (h 18 x18 rfl) rfl) _ _ _ (by decide) (by decide)]
 simp only [andThen]
 rw [zct, zan H0 (zi5 (h 17 x17 rfl) rfl) _ _ _ (by decide) (by decide)]
 simp only [andThen]
 rw [zct, zan H0 (zjb (h 23 x23 rfl) rfl) _ _ _ (by decide) (by decide)]
 simp only [andThen]
 rw [zct, zan H0 (zja (h 22 x22 rfl) rfl) _ _ _ (by decide) (by decide)]
 simp only [andThen]
 rw [zct, zan H0 (zi9 (h 21 x21 rfl) rfl) _ _ _ (by decide) (by decide)]
 simp only [andThen]
 rw [zct, zan H0 (zjk (h 32 x32 rfl) rfl) _ _ _ (by decide) (by decide)]
 simp only [andThen]
 rw [zct, w0 _ _ (by decide) (by decide)]
 simp only [andThen]
 rw [zct, zan H1 (zji (h 30 x30 rfl) rfl) _ _ _ (by decide) (by decide)]
 simp only [andThen]
 rw [zct, zan H1 (zje (h 26 x26 rfl) rfl) _ _ _ (by decide) (by decide)]
 simp only [andThen]
 rw [zct, zan H1 (zi8 (h 20 x20 rfl) rfl) _ _ _ (by decide) (by decide)]
 simp only [andThen]
 rw [zct, zan H1 (zi7 (h 19 x19 rfl) rfl) _ _ _ (by decide) (by decide)]
 simp only [andThen]
 rw [zct, zan H1 (zjf (h 27 x27 rfl) rfl) _ _ _ (by decide) (by decide)]
 simp only [andThen]
 rw [zct, zan H1 (zi4 (h 16 x16 rfl) rfl) _ _ _ (by decide) (by decide)]
 simp only [andThen]
 rw [zct, zan H1 (zjj (h 31 x31 rfl) rfl) _ _ _ (by decide) (by decide)]
 simp only [andThen]
 rw [zct, zan H1 (zjw (h 45 x45 rfl) rfl) _ _ _ (by decide) (by decide)]
 simp only [andThen]
 rw [zct, zan H1 (zj0 (h 49 x49 rfl) rfl) _ _ _ (by decide) (by decide)]
 simp only [andThen]
 rw [zct, zan H1 (zj4 (h 53 x53 rfl) rfl) _ _ _ (by decide) (by decide)]
 simp only [andThen]
 rw [zct, zan H1 (zj5 (h 54 x54 rfl) rfl) _ _ _ (by decide) (by decide)]
 simp only [andThen]
 rw [zct, zan H1 (zjz (h 48 x48 rfl) rfl) _ _ _ (by decide) (by decide)]
 simp only [andThen]
 rw [zct, zan H1 (zjv (h 44 x44 rfl) rfl) _ _ _ (by decide) (by decide)]
 simp only [andThen]
 rw [zct, zan H1 (zjp (h 38 x38 rfl) rfl) _ _ _ (by decide) (by decide)]
 simp only [andThen]
 rw [zct, zan H1 (zjo (h 37 x37 rfl) rfl) _ _ _ (by decide) (by decide)]
 simp only [andThen]
 rw [zct, zan H1 (zju (h 43 x43 rfl) rfl) _ _ _ (by decide) (by decide)]
 simp only [andThen]
 rw [zct, zan H1 (zjt (h 42 x42 rfl) rfl) _ _ _ (by decide) (by decide)]
 simp only [andThen]
 rw [zct, zan H1 (zjs (h 41 x41 rfl) rfl) _ _ _ (by decide) (by decide)]
 simp only [andThen]
 rw [zct, zan H1 (zj3 (h 52 x52 rfl) rfl) _ _ _ (by decide) (by decide)]
 simp only [andThen]
 rw [zct, w1 _ _ (by decide) (by decide)]
 simp only [andThen]
 rw [zct, zan H2 (zj1 (h 50 x50 rfl) rfl) _ _ _ (by decide) (by decide)]
 simp only [andThen]
 rw [zct, zan H2 (zjx (h 46 x46 rfl) rfl) _ _ _ (by decide) (by decide)]
 simp only [andThen]
 rw [zct, zan H2 (zjr (h 40 x40 rfl) rfl) _ _ _ (by decide) (by decide)]
 simp only [andThen]
 rw [zct, zan H2 (zjq (h 39 x39 rfl) rfl) _ _ _ (by decide) (by decide)]
 simp only [andThen]
 rw [zct, zan H2 (zjy (h 47 x47 rfl) rfl) _ _ _ (by decide) (by decide)]
 simp only [andThen]
 rw [zct, zan H2 (zjn (h 36 x36 rfl) rfl) _ _ _ (by decide) (by decide)]
 simp only [andThen]
 rw [zct, zan H2 (zj2 (h 51 x51 rfl) rfl) _ _ _ (by decide) (by decide)]
 simp only [andThen]
 rw [zct, zcr]
 have b0 : exOps (callW code ext) ⟨4, [(0, .optr 0 0)], [.rich (bookW 2 (.osl 1 0 3 2 none)), .rich [.osl 2 0 4 n none, .osl 4 0 4 (n + 40) none, int64 1, .osl 3 0 4 n none, .osl 5 0 4 (n + 40) none, int64 2], .fix (t5.row (List.replicate (n) (mkW 1))) m2 false, .fix (t5.row (List.replicate (n) (mkW 2))) m3 false, .fix (t5.row (List.replicate (n + 40) (mkW 1))) false true, .fix (t5.row (List.replicate (n + 40) (mkW 2))) false true]⟩ [⟨some 83, .mv (.t 0), none⟩, ⟨some 84, .call .share 75 [.t 83], none⟩, ⟨some 85, .mv (.t 84), none⟩] = some ⟨4, [(85, avb true), (84, avb true), (83, .optr 0 0), (0, .optr 0 0)], [.rich (bookW 2 (.osl 1 0 3 2 none)), .rich [.osl 2 0 4 n none, .osl 4 0 4 (n + 40) none, int64 1, .osl 3 0 4 n none, .osl 5 0 4 (n + 40) none, int64 2], .fix (t5.row (List.replicate (n) (mkW 1))) m2 false, .fix (t5.row (List.replicate (n) (mkW 2))) m3 false, .fix (t5.row (List.replicate (n + 40) (mkW 1))) false true, .fix (t5.row (List.replicate (n + 40) (mkW 2))) false true]⟩ := by
  have hh := zgj (code := code) (ext := ext) (k := 4) H2 (e := [(83, .optr 0 0), (0, .optr 0 0)]) (by intro p hp; simp at hp; rcases hp with rfl | rfl <;> simp [AV.refs]) (r := avb true) rfl (zkf (h 75 x75 rfl) rfl)
  simp [-exShare, hh]
 have app : ∀ (xs ys : List XO) (s s' : St), exOps (callW code ext) s xs = some s' → exOps (callW code ext) s (xs ++ ys) = exOps (callW code ext) s' ys := by
  intro xs
  induction xs with
  | nil => intro ys s s' h; cases h; rfl
  | cons x r ih =>
   intro ys s s' h
   simp only [List.cons_append, exOps] at h ⊢
   cases hx : exOne (callW code ext) s x with
   | none => rw [hx] at h; cases h
   | some t => rw [hx] at h; exact ih ys t s' h
 have a0 := app _ [⟨some 86, .mv (.t 0), some (85, true)⟩, ⟨some 87, .call .share 79 [.t 86], some (85, true)⟩, ⟨some 88, .pick (.t 85) (.t 87) (.c (.bool false)), none⟩, ⟨some 89, .mv (.t 88), none⟩, ⟨some 90, .mv (.t 0), some (89, true)⟩, ⟨some 91, .call .share 83 [.t 90], some (89, true)⟩, ⟨some 92, .pick (.t 89) (.t 91) (.c (.bool false)), none⟩, ⟨some 93, .mv (.t 92), none⟩, ⟨some 94, .mv (.t 0), some (93, true)⟩, ⟨some 95, .call .share 84 [.t 94], some (93, true)⟩, ⟨some 96, .pick (.t 93) (.t 95) (.c (.bool false)), none⟩, ⟨some 97, .mv (.t 96), none⟩, ⟨some 98, .mv (.t 0), some (97, true)⟩, ⟨some 99, .call .share 78 [.t 98], some (97, true)⟩, ⟨some 100, .pick (.t 97) (.t 99) (.c (.bool false)), none⟩, ⟨some 101, .mv (.t 100), none⟩, ⟨some 102, .mv (.t 0), some (101, true)⟩, ⟨some 103, .call .share 74 [.t 102], some (101, true)⟩, ⟨some 104, .pick (.t 101) (.t 103) (.c (.bool false)), none⟩, ⟨some 105, .mv (.t 104), none⟩, ⟨some 106, .mv (.t 0), some (105, true)⟩, ⟨some 107, .call .share 68 [.t 106], some (105, true)⟩, ⟨some 108, .pick (.t 105) (.t 107) (.c (.bool false)), none⟩, ⟨some 109, .mv (.t 108), none⟩, ⟨some 110, .mv (.t 0), some (109, true)⟩, ⟨some 111, .call .share 67 [.t 110], some (109, true)⟩, ⟨some 112, .pick (.t 109) (.t 111) (.c (.bool false)), none⟩, ⟨some 113, .mv (.t 112), none⟩, ⟨some 114, .mv (.t 0), some (113, true)⟩, ⟨some 115, .call .share 73 [.t 114], some (113, true)⟩, ⟨some 116, .pick (.t 113) (.t 115) (.c (.bool false)), none⟩, ⟨some 117, .mv (.t 116), none⟩, ⟨some 118, .mv (.t 0), some (117, true)⟩, ⟨some 119, .call .share 72 [.t 118], some (117, true)⟩, ⟨some 120, .pick (.t 117) (.t 119) (.c (.bool false)), none⟩, ⟨some 121, .mv (.t 120), none⟩, ⟨some 122, .mv (.t 0), some (121, true)⟩, ⟨some 123, .call .share 71 [.t 122], some (121, true)⟩, ⟨some 124, .pick (.t 121) (.t 123) (.c (.bool false)), none⟩, ⟨some 125, .mv (.t 124), none⟩, ⟨some 126, .mv (.t 0), some (125, true)⟩, ⟨some 127, .call .share 82 [.t 126], some (125, true)⟩, ⟨some 128, .pick (.t 125) (.t 127) (.c (.bool false)), none⟩, ⟨some 129, .mv (.t 128), none⟩, ⟨some 130, .mv (.t 0), some (129, true)⟩, ⟨some 131, .call .share 85 [.t 130], some (129, true)⟩, ⟨some 132, .pick (.t 129) (.t 131) (.c (.bool false)), none⟩, ⟨some 133, .mv (.t 132), none⟩, ⟨some 134, .mv (.t 0), some (133, true)⟩, ⟨some 135, .call .share 80 [.t 134], some (133, true)⟩, ⟨some 136, .pick (.t 133) (.t 135) (.c (.bool false)), none⟩, ⟨some 137, .mv (.t 136), none⟩, ⟨some 138, .mv (.t 0), some (137, true)⟩, ⟨some 139, .call .share 76 [.t 138], some (137, true)⟩, ⟨some 140, .pick (.t 137) (.t 139) (.c (.bool false)), none⟩, ⟨some 141, .mv (.t 140), none⟩, ⟨some 142, .mv (.t 0), some (141, true)⟩, ⟨some 143, .call .share 70 [.t 142], some (141, true)⟩, ⟨some 144, .pick (.t 141) (.t 143) (.c (.bool false)), none⟩, ⟨some 145, .mv (.t 144), none⟩, ⟨some 146, .mv (.t 0), some (145, true)⟩, ⟨some 147, .call .share 69 [.t 146], some (145, true)⟩, ⟨some 148, .pick (.t 145) (.t 147) (.c (.bool false)), none⟩, ⟨some 149, .mv (.t 148), none⟩, ⟨some 150, .mv (.t 0), some (149, true)⟩, ⟨some 151, .call .share 77 [.t 150], some (149, true)⟩, ⟨some 152, .pick (.t 149) (.t 151) (.c (.bool false)), none⟩, ⟨some 153, .mv (.t 152), none⟩, ⟨some 154, .mv (.t 0), some (153, true)⟩, ⟨some 155, .call .share 66 [.t 154], some (153, true)⟩, ⟨some 156, .pick (.t 153) (.t 155) (.c (.bool false)), none⟩, ⟨some 157, .mv (.t 156), none⟩, ⟨some 158, .mv (.t 0), some (157, true)⟩, ⟨some 159, .call .share 81 [.t 158], some (157, true)⟩, ⟨some 160, .pick (.t 157) (.t 159) (.c (.bool false)), none⟩, ⟨some 2, .mv (.t 160), none⟩] _ _ b0
 simp only [List.cons_append, List.nil_append] at a0
 rw [a0]
 have p0 : OnlyW [(85, avb true), (84, avb true), (83, AV.optr 0 0), (0, AV.optr 0 0)] := by intro p hp; simp at hp; rcases hp with rfl | rfl | rfl | rfl <;> simp [AV.refs]
 have q0 : Env.get [(85, avb true), (84, avb true), (83, AV.optr 0 0), (0, AV.optr 0 0)] 0 = .optr 0 0 := by simp
 have r0 : Env.get [(85, avb true), (84, avb true), (83, AV.optr 0 0), (0, AV.optr 0 0)] 85 = avb true := by simp
 obtain ⟨e1, p1, q1, r1, s1⟩ := zh8 (code := code) (ext := ext) H2 (zkj (h 79 x79 rfl) rfl) 4 85 86 87 88 89 (by decide) (by decide) (by decide) (by decide) (by decide) (by decide) (by decide) (by decide) _ p0 q0 r0 _
 rw [s1]
 obtain ⟨e2, p2, q2, r2, s2⟩ := zh8 (code := code) (ext := ext) H2 (zkn (h 83 x83 rfl) rfl) 4 89 90 91 92 93 (by decide) (by decide) (by decide) (by decide) (by decide) (by decide) (by decide) (by decide) _ p1 q1 r1 _
 rw [s2]
 obtain ⟨e3, p3, q3, r3, s3⟩ := zh8 (code := code) (ext := ext) H2 (zko (h 84 x84 rfl) rfl) 4 93 94 95 96 97 (by decide) (by decide) (by decide) (by decide) (by decide) (by decide) (by decide) (by decide) _ p2 q2 r2 _
 rw [s3]
 obtain ⟨e4, p4, q4, r4, s4⟩ := zh8 (code := code) (ext := ext) H2 (zki (h 78 x78 rfl) rfl) 4 97 98 99 100 101 (by decide) (by decide) (by decide) (by decide) (by decide) (by decide) (by decide) (by decide) _ p3 q3 r3 _
 rw [s4]
 obtain ⟨e5, p5, q5, r5, s5⟩ := zh8 (code := code) (ext := ext) H2 (zke (h 74 x74 rfl) rfl) 4 101 102 103 104 105 (by decide) (by decide) (by decide) (by decide) (by decide) (by decide) (by decide) (by decide) _ p4 q4 r4 _
 rw [s5]
 obtain ⟨e6, p6, q6, r6, s6⟩ := zh8 (code := code) (ext := ext) H2 (zj8 (h 68 x68 rfl) rfl) 4 105 106 107 108 109 (by decide) (by decide) (by decide) (by decide) (by decide) (by decide) (by decide) (by decide) _ p5 q5 r5 _
 rw [s6]
 obtain ⟨e7, p7, q7, r7, s7⟩ := zh8 (code := code) (ext := ext) H2 (zj7 (h 67 x67 rfl) rfl) 4 109 110 111 112 113 (by decide) (by decide) (by decide) (by decide) (by decide) (by decide) (by decide) (by decide) _ p6 q6 r6 _
 rw [s7]
 obtain ⟨e8, p8, q8, r8, s8⟩ := zh8 (code := code) (ext := ext) H2 (zkd (h 73 x73 rfl) rfl) 4 113 114 115 116 117 (by decide) (by decide) (by decide) (by decide) (by decide) (by decide) (by decide) (by decide) _ p7 q7 r7 _
 rw [s8]
 obtain ⟨e9, p9, q9, r9, s9⟩ := zh8 (code := code) (ext := ext) H2 (zkc (h 72 x72 rfl) rfl) 4 117 118 119 120 121 (by decide) (by decide) (by decide) (by decide) (by decide) (by decide) (by decide) (by decide) _ p8 q8 r8 _
 rw [s9]
 obtain ⟨e10, p10, q10, r10, s10⟩ := zh8 (code := code) (ext := ext) H2 (zkb (h 71 x71 rfl) rfl) 4 121 122 123 124 125 (by decide) (by decide) (by decide) (by decide) (by decide) (by decide) (by decide) (by decide) _ p9 q9 r9 _
 rw [s10]
 obtain ⟨e11, p11, q11, r11, s11⟩ := zh8 (code := code) (ext := ext) H2 (zkm (h 82 x82 rfl) rfl) 4 125 126 127 128 129 (by decide) (by decide) (by decide) (by decide) (by decide) (by decide) (by decide) (by decide) _ p10 q10 r10 _
 rw [s11]
 obtain ⟨e12, p12, q12, r12, s12⟩ := zh8 (code := code) (ext := ext) H2 hlk 4 129 130 131 132 133 (by decide) (by decide) (by decide) (by decide) (by decide) (by decide) (by decide) (by decide) _ p11 q11 r11 _
 rw [s12]
 obtain ⟨e13, p13, q13, r13, s13⟩ := zh8 (code := code) (ext := ext) H2 (zkk (h 80 x80 rfl) rfl) 4 133 134 135 136 137 (by decide) (by decide) (by decide) (by decide) (by decide) (by decide) (by decide) (by decide) _ p12 q12 r12 _
 rw [s13]
 obtain ⟨e14, p14, q14, r14, s14⟩ := zh8 (code := code) (ext := ext) H2 (zkg (h 76 x76 rfl) rfl) 4 137 138 139 140 141 (by decide) (by decide) (by decide) (by decide) (by decide) (by decide) (by decide) (by decide) _ p13 q13 r13 _
 rw [s14]
 obtain ⟨e15, p15, q15, r15, s15⟩ := zh8 (code := code) (ext := ext) H2 (zka (h 70 x70 rfl) rfl) 4 141 142 143 144 145 (by decide) (by decide) (by decide) (by decide) (by decide) (by decide) (by decide) (by decide) _ p14 q14 r14 _
 rw [s15]
 obtain ⟨e16, p16, q16, r16, s16⟩ := zh8 (code := code) (ext := ext) H2 (zj9 (h 69 x69 rfl) rfl) 4 145 146 147 148 149 (by decide) (by decide) (by decide) (by decide) (by decide) (by decide) (by decide) (by decide) _ p15 q15 r15 _
 rw [s16]
 obtain ⟨e17, p17, q17, r17, s17⟩ := zh8 (code := code) (ext := ext) H2 (zkh (h 77 x77 rfl) rfl) 4 149 150 151 152 153 (by decide) (by decide) (by decide) (by decide) (by decide) (by decide) (by decide) (by decide) _ p16 q16 r16 _
 rw [s17]
 obtain ⟨e18, p18, q18, r18, s18⟩ := zh8 (code := code) (ext := ext) H2 (zj6 (h 66 x66 rfl) rfl) 4 153 154 155 156 157 (by decide) (by decide) (by decide) (by decide) (by decide) (by decide) (by decide) (by decide) _ p17 q17 r17 _
 rw [s18]
 obtain ⟨e19, p19, q19, r19, s19⟩ := zh8 (code := code) (ext := ext) H2 (zkl (h 81 x81 rfl) rfl) 4 157 158 159 160 2 (by decide) (by decide) (by decide) (by decide) (by decide) (by decide) (by decide) (by decide) _ p18 q18 r18 _
 rw [s19]
 simp only [exOps, Option.map_some, andThen, zcs, funOut, leave, resOf, List.mapM_cons, List.mapM_nil, Env.keep, List.map_cons, List.map_nil, Env.get, r19, if_true]
 exact ⟨_, rfl⟩
theorem handsWZ0   : HandsW [.rich (bookW 2 (.osl 1 0 3 2 none)), .rich [nilS, nilS, int64 1, nilS, nilS, int64 2]] [0, 1] [.rich (bookW 2 (.osl 1 0 3 2 none)), .rich [nilS, nilS, int64 1, nilS, nilS, int64 2]] := by
 refine ⟨by simp -implicitDefEqProofs [bookW, nilS], by simp -implicitDefEqProofs [bookW, nilS], by simp [bookW, nilS, AObj.refs, AV.refs, AV.refs.refsL], by simp [bookW, nilS, shareOk, AObj.isFix, List.range_succ], ?_, rfl, by decide⟩
 intro id hid
 simp at hid ⊢
 omega
theorem handsWZ2 (q : Nat) : HandsW [.rich (bookW 2 (.osl 1 0 3 2 none)), .rich [nilS, .osl 2 0 4 q none, int64 1, nilS, .osl 3 0 4 q none, int64 2], .fix (t5.row (List.replicate (q) (mkW 1))) false true, .fix (t5.row (List.replicate (q) (mkW 2))) false true] [0, 1, 2, 3] [.rich (bookW 2 (.osl 1 0 3 2 none)), .rich [nilS, .osl 2 0 4 q none, int64 1, nilS, .osl 3 0 4 q none, int64 2], .fix (t5.row (List.replicate (q) (mkW 1))) false true, .fix (t5.row (List.replicate (q) (mkW 2))) false true] := by
 generalize t5.row (List.replicate (q) (mkW 1)) = H0
 generalize t5.row (List.replicate (q) (mkW 2)) = H1
 refine ⟨by simp -implicitDefEqProofs [bookW, nilS], by simp -implicitDefEqProofs [bookW, nilS], by simp [bookW, nilS, AObj.refs, AV.refs, AV.refs.refsL], by simp [bookW, nilS, shareOk, AObj.isFix, List.range_succ], ?_, rfl, by decide⟩
 intro id hid
 simp at hid ⊢
 omega
theorem zak (h35 : code 35 = some x35)     (d d' : Nat) (hd : d ≠ 0) (hd' : d' ≠ 0) :
  den code ext (.region [0] [⟨some d, .mv (.t 0), none⟩, ⟨some d', .call .share 35 [.t d], none⟩]) ⟨2, [(0, .optr 0 0)], [.rich (bookW 2 (.osl 1 0 3 2 none)), .rich [nilS, nilS, int64 1, nilS, nilS, int64 2]]⟩ = some (.normal, ⟨2, [(0, .optr 0 0)], [.rich (bookW 2 (.osl 1 0 3 2 none)), .rich [nilS, nilS, int64 1, nilS, nilS, int64 2]]⟩) := by
 have hf := zeu (ext := ext) h35
 simp only [bookW, nilS] at hf
 simp -implicitDefEqProofs [hf, hd, hd', Ne.symm hd', bookW, nilS]
theorem zal (h : MarkCode code ext) (h55 : code 55 = some x55)   (d d' : Nat) (hd : d ≠ 0) (hd' : d' ≠ 0) (q : Nat) (hq : q = 40) :
  den code ext (.region [0] [⟨some d, .mv (.t 0), none⟩, ⟨some d', .call .share 55 [.t d], none⟩]) ⟨2, [(0, .optr 0 0)], [.rich (bookW 2 (.osl 1 0 3 2 none)), .rich [nilS, nilS, int64 1, nilS, nilS, int64 2]]⟩ = some (.normal, ⟨2, [(0, .optr 0 0)], [.rich (bookW 2 (.osl 1 0 3 2 none)), .rich [nilS, .osl 2 0 4 q none, int64 1, nilS, .osl 3 0 4 q none, int64 2], .fix (t5.row (List.replicate (q) (mkW 1))) false true, .fix (t5.row (List.replicate (q) (mkW 2))) false true]⟩) := by
 subst hq
 have hf := zgf (ext := ext) h h55
 simp only [bookW, nilS] at hf
 generalize t5.row (List.replicate (40) (mkW 1)) = H0 at *
 generalize t5.row (List.replicate (40) (mkW 2)) = H1 at *
 simp -implicitDefEqProofs [hf, hd, hd', Ne.symm hd', bookW, nilS]
theorem zam (hM : MarkCode code ext) (h : ∀ g f, code5z g = some f → code g = some f)     : ∃ mo : Mem, callW code ext 1 [.optr 0 0] [.rich (bookW 2 (.osl 1 0 3 2 none)), .rich [nilS, nilS, int64 1, nilS, nilS, int64 2]] = some (avb true, mo) := by
 obtain ⟨q, hq⟩ : ∃ q : Nat, q = 40 := ⟨40, rfl⟩
 have H0 := handsWZ0
 have H1 := handsWZ0
 have H2 := handsWZ2 q
 have w0 := fun d d' hd hd' => zak (ext := ext) (h 35 _ rfl)     d d' hd hd'
 have w1 := fun d d' hd hd' => zal (ext := ext) hM (h 55 _ rfl)   d d' hd hd' q hq
 have hlk := zh5 (ext := ext) hM (h 85 _ rfl)   q hq
 rw [zbi code ext (h 1 _ rfl)]
 simp only [x1, enter, List.length_cons, List.length_nil]
 rw [zct, show den code ext (.region [0] [⟨some 2, .mv (.c (.bool false)), none⟩]) ⟨2, [(0, .optr 0 0)], [.rich (bookW 2 (.osl 1 0 3 2 none)), .rich [nilS, nilS, int64 1, nilS, nilS, int64 2]]⟩ = some (.normal, ⟨2, [(0, .optr 0 0)], [.rich (bookW 2 (.osl 1 0 3 2 none)), .rich [nilS, nilS, int64 1, nilS, nilS, int64 2]]⟩) by simp]
 simp only [andThen]
 rw [zct, zan H0 (zjd (h 25 x25 rfl) rfl) _ _ _ (by decide) (by decide)]
 simp only [andThen]
 rw [zct, zan H0 (zjh (h 29 x29 rfl) rfl) _ _ _ (by decide) (by decide)]
 simp only [andThen]
 rw [zct, zan H0 (zjl (h 33 x33 rfl) rfl) _ _ _ (by decide) (by decide)]
 simp only [andThen]
 rw [zct, zan H0 (zjm (h 34 x34 rfl) rfl) _ _ _ (by decide) (by decide)]
 simp only [andThen]
 rw [zct, zan H0 (zjg (h 28 x28 rfl) rfl) _ _ _ (by decide) (by decide)]
 simp only [andThen]
 rw [zct, zan H0 (zjc (h 24 x24 rfl) rfl) _ _ _ (by decide) (by decide)]
 simp only [andThen]
 rw [zct, zan H0 (zi6 (h 18 x18 rfl) rfl) _ _ _ (by decide) (by decide)]
 simp only [andThen]
 rw [zct, zan H0 (zi5 (h 17 x17 rfl) rfl) _ _ _ (by decide) (by decide)]
 simp only [andThen]
 rw [zct, zan H0 (zjb (h 23 x23 rfl) rfl) _ _ _ (by decide) (by decide)]
 simp only [andThen]
 rw [zct, zan H0 (zja (h 22 x22 rfl) rfl) _ _ _ (by decide) (by decide)]
 simp only [andThen]
 rw [zct, zan H0 (zi9 (h 21 x21 rfl) rfl) _ _ _ (by decide) (by decide)]
 simp only [andThen]
 rw [zct, zan H0 (zjk (h 32 x32 rfl) rfl) _ _ _ (by decide) (by decide)]
 simp only [andThen]
 rw [zct, w0 _ _ (by decide) (by decide)]
 simp only [andThen]
 rw [zct, zan H1 (zji (h 30 x30 rfl) rfl) _ _ _ (by decide) (by decide)]
 simp only [andThen]
 rw [zct, zan H1 (zje (h 26 x26 rfl) rfl) _ _ _ (by decide) (by decide)]
 simp only [andThen]
 rw [zct, zan H1 (zi8 (h 20 x20 rfl) rfl) _ _ _ (by decide) (by decide)]
 simp only [andThen]
 rw [zct, zan H1 (zi7 (h 19 x19 rfl) rfl) _ _ _ (by decide) (by decide)]
 simp only [andThen]
 rw [zct, zan H1 (zjf (h 27 x27 rfl) rfl) _ _ _ (by decide) (by decide)]
 simp only [andThen]
 rw [zct, zan H1 (zi4 (h 16 x16 rfl) rfl) _ _ _ (by decide) (by decide)]
 simp only [andThen]
 rw [zct, zan H1 (zjj (h 31 x31 rfl) rfl) _ _ _ (by decide) (by decide)]
 simp only [andThen]
 rw [zct, zan H1 (zjw (h 45 x45 rfl) rfl) _ _ _ (by decide) (by decide)]
 simp only [andThen]
 rw [zct, zan H1 (zj0 (h 49 x49 rfl) rfl) _ _ _ (by decide) (by decide)]
 simp only [andThen]
 rw [zct, zan H1 (zj4 (h 53 x53 rfl) rfl) _ _ _ (by decide) (by decide)]
 simp only [andThen]
 rw [zct, zan H1 (zj5 (h 54 x54 rfl) rfl) _ _ _ (by decide) (by decide)]
 simp only [andThen]
 rw [zct, zan H1 (zjz (h 48 x48 rfl) rfl) _ _ _ (by decide) (by decide)]
 simp only [andThen]
 rw [zct, zan H1 (zjv (h 44 x44 rfl) rfl) _ _ _ (by decide) (by decide)]
 simp only [andThen]
 rw [zct, zan H1 (zjp (h 38 x38 rfl) rfl) _ _ _ (by decide) (by decide)]
 simp only [andThen]
 rw [zct, zan H1 (zjo (h 37 x37 rfl) rfl) _ _ _ (by decide) (by decide)]
 simp only [andThen]
 rw [zct, zan H1 (zju (h 43 x43 rfl) rfl) _ _ _ (by decide) (by decide)]
 simp only [andThen]
 rw [zct, zan H1 (zjt (h 42 x42 rfl) rfl) _ _ _ (by decide) (by decide)]
 simp only [andThen]
 rw [zct, zan H1 (zjs (h 41 x41 rfl) rfl) _ _ _ (by decide) (by decide)]
 simp only [andThen]
 rw [zct, zan H1 (zj3 (h 52 x52 rfl) rfl) _ _ _ (by decide) (by decide)]
 simp only [andThen]
 rw [zct, w1 _ _ (by decide) (by decide)]
 simp only [andThen]
 rw [zct, zan H2 (zj1 (h 50 x50 rfl) rfl) _ _ _ (by decide) (by decide)]
 simp only [andThen]
 rw [zct, zan H2 (zjx (h 46 x46 rfl) rfl) _ _ _ (by decide) (by decide)]
 simp only [andThen]
 rw [zct, zan H2 (zjr (h 40 x40 rfl) rfl) _ _ _ (by decide) (by decide)]
 simp only [andThen]
 rw [zct, zan H2 (zjq (h 39 x39 rfl) rfl) _ _ _ (by decide) (by decide)]
 simp only [andThen]
 rw [zct, zan H2 (zjy (h 47 x47 rfl) rfl) _ _ _ (by decide) (by decide)]
 simp only [andThen]
 rw [zct, zan H2 (zjn (h 36 x36 rfl) rfl) _ _ _ (by decide) (by decide)]
 simp only [andThen]
 rw [zct, zan H2 (zj2 (h 51 x51 rfl) rfl) _ _ _ (by decide) (by decide)]
 simp only [andThen]
 rw [zct, zcr]
 have b0 : exOps (callW code ext) ⟨2, [(0, .optr 0 0)], [.rich (bookW 2 (.osl 1 0 3 2 none)), .rich [nilS, .osl 2 0 4 q none, int64 1, nilS, .osl 3 0 4 q none, int64 2], .fix (t5.row (List.replicate (q) (mkW 1))) false true, .fix (t5.row (List.replicate (q) (mkW 2))) false true]⟩ [⟨some 83, .mv (.t 0), none⟩, ⟨some 84, .call .share 75 [.t 83], none⟩, ⟨some 85, .mv (.t 84), none⟩] = some ⟨2, [(85, avb true), (84, avb true), (83, .optr 0 0), (0, .optr 0 0)], [.rich (bookW 2 (.osl 1 0 3 2 none)), .rich [nilS, .osl 2 0 4 q none, int64 1, nilS, .osl 3 0 4 q none, int64 2], .fix (t5.row (List.replicate (q) (mkW 1))) false true, .fix (t5.row (List.replicate (q) (mkW 2))) false true]⟩ := by
  have hh := zgj (code := code) (ext := ext) (k := 2) H2 (e := [(83, .optr 0 0), (0, .optr 0 0)]) (by intro p hp; simp at hp; rcases hp with rfl | rfl <;> simp [AV.refs]) (r := avb true) rfl (zkf (h 75 x75 rfl) rfl)
  simp [-exShare, hh]
 have app : ∀ (xs ys : List XO) (s s' : St), exOps (callW code ext) s xs = some s' → exOps (callW code ext) s (xs ++ ys) = exOps (callW code ext) s' ys := by
  intro xs
  induction xs with
  | nil => intro ys s s' h; cases h; rfl
  | cons x r ih =>
   intro ys s s' h
   simp only [List.cons_append, exOps] at h ⊢
   cases hx : exOne (callW code ext) s x with
   | none => rw [hx] at h; cases h
   | some t => rw [hx] at h; exact ih ys t s' h
 have a0 := app _ [⟨some 86, .mv (.t 0), some (85, true)⟩, ⟨some 87, .call .share 79 [.t 86], some (85, true)⟩, ⟨some 88, .pick (.t 85) (.t 87) (.c (.bool false)), none⟩, ⟨some 89, .mv (.t 88), none⟩, ⟨some 90, .mv (.t 0), some (89, true)⟩, ⟨some 91, .call .share 83 [.t 90], some (89, true)⟩, ⟨some 92, .pick (.t 89) (.t 91) (.c (.bool false)), none⟩, ⟨some 93, .mv (.t 92), none⟩, ⟨some 94, .mv (.t 0), some (93, true)⟩, ⟨some 95, .call .share 84 [.t 94], some (93, true)⟩, ⟨some 96, .pick (.t 93) (.t 95) (.c (.bool false)), none⟩, ⟨some 97, .mv (.t 96), none⟩, ⟨some 98, .mv (.t 0), some (97, true)⟩, ⟨some 99, .call .share 78 [.t 98], some (97, true)⟩, ⟨some 100, .pick (.t 97) (.t 99) (.c (.bool false)), none⟩, ⟨some 101, .mv (.t 100), none⟩, ⟨some 102, .mv (.t 0), some (101, true)⟩, ⟨some 103, .call .share 74 [.t 102], some (101, true)⟩, ⟨some 104, .pick (.t 101) (.t 103) (.c (.bool false)), none⟩, ⟨some 105, .mv (.t 104), none⟩, ⟨some 106, .mv (.t 0), some (105, true)⟩, ⟨some 107, .call .share 68 [.t 106], some (105, true)⟩, ⟨some 108, .pick (.t 105) (.t 107) (.c (.bool false)), none⟩, ⟨some 109, .mv (.t 108), none⟩, ⟨some 110, .mv (.t 0), some (109, true)⟩, ⟨some 111, .call .share 67 [.t 110], some (109, true)⟩, ⟨some 112, .pick (.t 109) (.t 111) (.c (.bool false)), none⟩, ⟨some 113, .mv (.t 112), none⟩, ⟨some 114, .mv (.t 0), some (113, true)⟩, ⟨some 115, .call .share 73 [.t 114], some (113, true)⟩, ⟨some 116, .pick (.t 113) (.t 115) (.c (.bool false)), none⟩, ⟨some 117, .mv (.t 116), none⟩, ⟨some 118, .mv (.t 0), some (117, true)⟩, ⟨some 119, .call .share 72 [.t 118], some (117, true)⟩, ⟨some 120, .pick (.t 117) (.t 119) (.c (.bool false)), none⟩, ⟨some 121, .mv (.t 120), none⟩, ⟨some 122, .mv (.t 0), some (121, true)⟩, ⟨some 123, .call .share 71 [.t 122], some (121, true)⟩, ⟨some 124, .pick (.t 121) (.t 123) (.c (.bool false)), none⟩, ⟨some 125, .mv (.t 124), none⟩, ⟨some 126, .mv (.t 0), some (125, true)⟩, ⟨some 127, .call .share 82 [.t 126], some (125, true)⟩, ⟨some 128, .pick (.t 125) (.t 127) (.c (.bool false)), none⟩, ⟨some 129, .mv (.t 128), none⟩, ⟨some 130, .mv (.t 0), some (129, true)⟩, ⟨some 131, .call .share 85 [.t 130], some (129, true)⟩, ⟨some 132, .pick (.t 129) (.t 131) (.c (.bool false)), none⟩, ⟨some 133, .mv (.t 132), none⟩, ⟨some 134, .mv (.t 0), some (133, true)⟩, ⟨some 135, .call .share 80 [.t 134], some (133, true)⟩, ⟨some 136, .pick (.t 133) (.t 135) (.c (.bool false)), none⟩, ⟨some 137, .mv (.t 136), none⟩, ⟨some 138, .mv (.t 0), some (137, true)⟩, ⟨some 139, .call .share 76 [.t 138], some (137, true)⟩, ⟨some 140, .pick (.t 137) (.t 139) (.c (.bool false)), none⟩, ⟨some 141, .mv (.t 140), none⟩, ⟨some 142, .mv (.t 0), some (141, true)⟩, ⟨some 143, .call .share 70 [.t 142], some (141, true)⟩, ⟨some 144, .pick (.t 141) (.t 143) (.c (.bool false)), none⟩, ⟨some 145, .mv (.t 144), none⟩, ⟨some 146, .mv (.t 0), some (145, true)⟩, ⟨some 147, .call .share 69 [.t 146], some (145, true)⟩, ⟨some 148, .pick (.t 145) (.t 147) (.c (.bool false)), none⟩, ⟨some 149, .mv (.t 148), none⟩, ⟨some 150, .mv (.t 0), some (149, true)⟩, ⟨some 151, .call .share 77 [.t 150], some (149, true)⟩, ⟨some 152, .pick (.t 149) (.t 151) (.c (.bool false)), none⟩, ⟨some 153, .mv (.t 152), none⟩, ⟨some 154, .mv (.t 0), some (153, true)⟩, ⟨some 155, .call .share 66 [.t 154], some (153, true)⟩, ⟨some 156, .pick (.t 153) (.t 155) (.c (.bool false)), none⟩, ⟨some 157, .mv (.t 156), none⟩, ⟨some 158, .mv (.t 0), some (157, true)⟩, ⟨some 159, .call .share 81 [.t 158], some (157, true)⟩, ⟨some 160, .pick (.t 157) (.t 159) (.c (.bool false)), none⟩, ⟨some 2, .mv (.t 160), none⟩] _ _ b0
 simp only [List.cons_append, List.nil_append] at a0
 rw [a0]
 have p0 : OnlyW [(85, avb true), (84, avb true), (83, AV.optr 0 0), (0, AV.optr 0 0)] := by intro p hp; simp at hp; rcases hp with rfl | rfl | rfl | rfl <;> simp [AV.refs]
 have q0 : Env.get [(85, avb true), (84, avb true), (83, AV.optr 0 0), (0, AV.optr 0 0)] 0 = .optr 0 0 := by simp
 have r0 : Env.get [(85, avb true), (84, avb true), (83, AV.optr 0 0), (0, AV.optr 0 0)] 85 = avb true := by simp
 obtain ⟨e1, p1, q1, r1, s1⟩ := zh8 (code := code) (ext := ext) H2 (zkj (h 79 x79 rfl) rfl) 2 85 86 87 88 89 (by decide) (by decide) (by decide) (by decide) (by decide) (by decide) (by decide) (by decide) _ p0 q0 r0 _
 rw [s1]
 obtain ⟨e2, p2, q2, r2, s2⟩ := zh8 (code := code) (ext := ext) H2 (zkn (h 83 x83 rfl) rfl) 2 89 90 91 92 93 (by decide) (by decide) (by decide) (by decide) (by decide) (by decide) (by decide) (by decide) _ p1 q1 r1 _
 rw [s2]
 obtain ⟨e3, p3, q3, r3, s3⟩ := zh8 (code := code) (ext := ext) H2 (zko (h 84 x84 rfl) rfl) 2 93 94 95 96 97 (by decide) (by decide) (by decide) (by decide) (by decide) (by decide) (by decide) (by decide) _ p2 q2 r2 _
 rw [s3]
 obtain ⟨e4, p4, q4, r4, s4⟩ := zh8 (code := code) (ext := ext) H2 (zki (h 78 x78 rfl) rfl) 2 97 98 99 100 101 (by decide) (by decide) (by decide) (by decide) (by decide) (by decide) (by decide) (by decide) _ p3 q3 r3 _
 rw [s4]
 obtain ⟨e5, p5, q5, r5, s5⟩ := zh8 (code := code) (ext := ext) H2 (zke (h 74 x74 rfl) rfl) 2 101 102 103 104 105 (by decide) (by decide) (by decide) (by decide) (by decide) (by decide) (by decide) (by decide) _ p4 q4 r4 _
 rw [s5]
 obtain ⟨e6, p6, q6, r6, s6⟩ := zh8 (code := code) (ext := ext) H2 (zj8 (h 68 x68 rfl) rfl) 2 105 106 107 108 109 (by decide) (by decide) (by decide) (by decide) (by decide) (by decide) (by decide) (by decide) _ p5 q5 r5 _
 rw [s6]
 obtain ⟨e7, p7, q7, r7, s7⟩ := zh8 (code := code) (ext := ext) H2 (zj7 (h 67 x67 rfl) rfl) 2 109 110 111 112 113 (by decide) (by decide) (by decide) (by decide) (by decide) (by decide) (by decide) (by decide) _ p6 q6 r6 _
 rw [s7]
 obtain ⟨e8, p8, q8, r8, s8⟩ := zh8 (code := code) (ext := ext) H2 (zkd (h 73 x73 rfl) rfl) 2 113 114 115 116 117 (by decide) (by decide) (by decide) (by decide) (by decide) (by decide) (by decide) (by decide) _ p7 q7 r7 _
 rw [s8]
 obtain ⟨e9, p9, q9, r9, s9⟩ := zh8 (code := code) (ext := ext) H2 (zkc (h 72 x72 rfl) rfl) 2 117 118 119 120 121 (by decide) (by decide) (by decide) (by decide) (by decide) (by decide) (by decide) (by decide) _ p8 q8 r8 _
 rw [s9]
 obtain ⟨e10, p10, q10, r10, s10⟩ := zh8 (code := code) (ext := ext) H2 (zkb (h 71 x71 rfl) rfl) 2 121 122 123 124 125 (by decide) (by decide) (by decide) (by decide) (by decide) (by decide) (by decide) (by decide) _ p9 q9 r9 _
 rw [s10]
 obtain ⟨e11, p11, q11, r11, s11⟩ := zh8 (code := code) (ext := ext) H2 (zkm (h 82 x82 rfl) rfl) 2 125 126 127 128 129 (by decide) (by decide) (by decide) (by decide) (by decide) (by decide) (by decide) (by decide) _ p10 q10 r10 _
 rw [s11]
 obtain ⟨e12, p12, q12, r12, s12⟩ := zh8 (code := code) (ext := ext) H2 hlk 2 129 130 131 132 133 (by decide) (by decide) (by decide) (by decide) (by decide) (by decide) (by decide) (by decide) _ p11 q11 r11 _
 rw [s12]
 obtain ⟨e13, p13, q13, r13, s13⟩ := zh8 (code := code) (ext := ext) H2 (zkk (h 80 x80 rfl) rfl) 2 133 134 135 136 137 (by decide) (by decide) (by decide) (by decide) (by decide) (by decide) (by decide) (by decide) _ p12 q12 r12 _
 rw [s13]
 obtain ⟨e14, p14, q14, r14, s14⟩ := zh8 (code := code) (ext := ext) H2 (zkg (h 76 x76 rfl) rfl) 2 137 138 139 140 141 (by decide) (by decide) (by decide) (by decide) (by decide) (by decide) (by decide) (by decide) _ p13 q13 r13 _
 rw [s14]
 obtain ⟨e15, p15, q15, r15, s15⟩ := zh8 (code := code) (ext := ext) H2 (zka (h 70 x70 rfl) rfl) 2 141 142 143 144 145 (by decide) (by decide) (by decide) (by decide) (by decide) (by decide) (by decide) (by decide) _ p14 q14 r14 _
 rw [s15]
 obtain ⟨e16, p16, q16, r16, s16⟩ := zh8 (code := code) (ext := ext) H2 (zj9 (h 69 x69 rfl) rfl) 2 145 146 147 148 149 (by decide) (by decide) (by decide) (by decide) (by decide) (by decide) (by decide) (by decide) _ p15 q15 r15 _
 rw [s16]
 obtain ⟨e17, p17, q17, r17, s17⟩ := zh8 (code := code) (ext := ext) H2 (zkh (h 77 x77 rfl) rfl) 2 149 150 151 152 153 (by decide) (by decide) (by decide) (by decide) (by decide) (by decide) (by decide) (by decide) _ p16 q16 r16 _
 rw [s17]
 obtain ⟨e18, p18, q18, r18, s18⟩ := zh8 (code := code) (ext := ext) H2 (zj6 (h 66 x66 rfl) rfl) 2 153 154 155 156 157 (by decide) (by decide) (by decide) (by decide) (by decide) (by decide) (by decide) (by decide) _ p17 q17 r17 _
 rw [s18]
 obtain ⟨e19, p19, q19, r19, s19⟩ := zh8 (code := code) (ext := ext) H2 (zkl (h 81 x81 rfl) rfl) 2 157 158 159 160 2 (by decide) (by decide) (by decide) (by decide) (by decide) (by decide) (by decide) (by decide) _ p18 q18 r18 _
 rw [s19]
 simp only [exOps, Option.map_some, andThen, zcs, funOut, leave, resOf, List.mapM_cons, List.mapM_nil, Env.keep, List.map_cons, List.map_nil, Env.get, r19, if_true]
 exact ⟨_, rfl⟩
end
end Go.EX


set_option maxHeartbeats 4000000
set_option linter.unusedVariables false
set_option linter.unusedSimpArgs false
namespace Go.EX
section
variable {code : Nat → Option XFun} {ext : Calls'}
structure WordsCode (code : Nat → Option XFun) (ext : Calls') : Prop where
 m : MarkCode code ext
 r : RefA code ext
 all : ∀ g f, code5z g = some f → code g = some f
def heldWZ : AObj := .flat [.val (.slice none 0 0), .val (.slice none 0 0), .val (.int .i64 1)] false
theorem keepWZ1 (h15 : code 15 = some x15) (h65 : code 65 = some x65) : callW code ext 15 [.optr 0 0, nilS] [.rich (bookW 0 nilS)] = some (.tup [], [.rich (bookW 1 (.osl 1 0 3 1 none)), heldWZ]) := by
 rw [zbi code ext h15]
 have e1 : IntKind.wrap .i64 1 = 1 := by decide
 simp -implicitDefEqProofs [x15, zbi code ext h65, x65, bookW, nilS, heldWZ, e1, exAppendX, exAppend, exAppendR, elems, elemsR]
theorem keepWZ2 (h15 : code 15 = some x15) (h65 : code 65 = some x65) : callW code ext 15 [.optr 0 0, nilS] [.rich (bookW 1 (.osl 1 0 3 1 none)), heldWZ] = some (.tup [], [.rich (bookW 2 (.osl 2 0 3 2 none)), .dead, .rich [nilS, nilS, int64 1, nilS, nilS, int64 2]]) := by
 rw [zbi code ext h15]
 have e1 : IntKind.wrap .i64 2 = 2 := by decide
 simp -implicitDefEqProofs [x15, zbi code ext h65, x65, bookW, nilS, heldWZ, e1, exAppendX, exAppend, exAppendR, elems, elemsR]
theorem keepWP1 (h15 : code 15 = some x15) (h65 : code 65 = some x65) (n : Nat) (c1 : List IV) (m1 : Bool) : callW code ext 15 [.optr 0 0, .osl 1 0 4 n none] [.rich (bookW 0 nilS), .flat c1 m1] =
  some (.tup [], [.rich (bookW 1 (.osl 2 0 3 1 none)), .flat c1 m1, .rich [.osl 1 0 4 n none, nilS, int64 1]]) := by
 rw [zbi code ext h15]
 have e1 : IntKind.wrap .i64 1 = 1 := by decide
 simp -implicitDefEqProofs [x15, zbi code ext h65, x65, bookW, nilS, e1, exAppendX, exAppend, exAppendR, elems, elemsR]
theorem keepWP2 (h15 : code 15 = some x15) (h65 : code 65 = some x65) (n : Nat) (c1 c3 : List IV) (m1 m3 : Bool) : callW code ext 15 [.optr 0 0, .osl 1 0 4 n none] [.rich (bookW 1 (.osl 2 0 3 1 none)), .flat c1 m1, .rich [.osl 3 0 4 n none, nilS, int64 1], .flat c3 m3] =
  some (.tup [], [.rich (bookW 2 (.osl 4 0 3 2 none)), .flat c1 m1, .dead, .flat c3 m3, .rich [.osl 3 0 4 n none, nilS, int64 1, .osl 1 0 4 n none, nilS, int64 2]]) := by
 rw [zbi code ext h15]
 have e1 : IntKind.wrap .i64 2 = 2 := by decide
 simp -implicitDefEqProofs [x15, zbi code ext h65, x65, bookW, nilS, e1, exAppendX, exAppend, exAppendR, elems, elemsR]
theorem zk0 {p : Option (AV × Mem)} {v : AV} (h : p.map Prod.fst = some v) : ∃ m : Mem, p = some (v, m) := by
 cases p with
 | none => cases h
 | some q => obtain ⟨a, m⟩ := q; cases h; exact ⟨m, rfl⟩
theorem zto (c : WordsCode code ext) (l : List UInt8) (a e : Int) (h1 : callW code ext 568 [strV (bs l)] [] = some (.tup [nilS, int64 a, int64 e], [])) (h2 : callW code ext 512 [strV (bs l)] [] = some (.tup [nilS, int64 a, int64 e], [])) :
  ∃ m : Mem, callW code ext 452 [strV (bs l)] [] = some (avb true, m) := by
 apply zk0
 have hsame := zpj (ext := ext) (c.all 358 _ rfl) [] (by simp)
 have hk1 := keepWZ1 (ext := ext) (c.all 15 _ rfl) (c.all 65 _ rfl)
 have hk2 := keepWZ2 (ext := ext) (c.all 15 _ rfl) (c.all 65 _ rfl)
 obtain ⟨mo, hap⟩ := zam (code := code) (ext := ext) c.m c.all
 have hv : vW [] = nilS := rfl
 rw [hv] at hsame
 rw [zbi code ext (c.all 452 _ rfl)]
 simp only [bookW, nilS, heldWZ] at h1 h2 hsame hk1 hk2 hap
 generalize bs l = B at *
 simp -implicitDefEqProofs [x452Z, h1, h2, hsame, hk1, hk2, hap]
set_option maxRecDepth 10000 in
theorem ztl (c : WordsCode code ext) (l : List UInt8) (ws : List W5) (h0 : ws.length ≠ 0) (hl : ws.length ≤ 1000000)
  (h1 : callW code ext 568 [strV (bs l)] [] = some (.tup [.osl 0 0 4 ws.length none, int64 0, int64 0], [.flat (rowW ws) false]))
  (h2 : callW code ext 512 [strV (bs l)] [] = some (.tup [.osl 0 0 4 ws.length none, int64 0, int64 0], [.flat (rowW ws) false])) :
  ∃ m : Mem, callW code ext 452 [strV (bs l)] [] = some (avb true, m) := by
 apply zk0
 have hsame := zpj (ext := ext) (c.all 358 _ rfl) ws (by omega)
 unfold vW at hsame
 rw [if_neg h0] at hsame
 have hk1 := keepWP1 (ext := ext) (c.all 15 _ rfl) (c.all 65 _ rfl) ws.length (rowW ws) false
 have hk2 := keepWP2 (ext := ext) (c.all 15 _ rfl) (c.all 65 _ rfl) ws.length (rowW ws) (rowW ws) false false
 obtain ⟨mo, hap⟩ := zaj (code := code) (ext := ext) c.m c.all ws.length false false ws ws rfl rfl hl
 have hcut : cut (rowW ws) 0 (ws.length * 4) = some (rowW ws) := zca _ (zoi ws)
 rw [zbi code ext (c.all 452 _ rfl)]
 simp only [bookW, nilS, ← zoh] at hk1 hk2 hap
 clear h0
 generalize rowW ws = R at *
 generalize ws.length = n at *
 generalize bs l = B at *
 simp -implicitDefEqProofs [x452Z, h1, h2, hsame, hk1, hk2, hap, hcut]
theorem zs8 (c : LexCode code ext) (l : List UInt8) (hbig : 65536 < l.length) : callW code ext 568 [strV (bs l)] [] = some (.tup [nilS, int64 0, int64 3], []) := by
 rw [zbi code ext c.c568]
 have hz := za9 l
 have hbig' : (65536 : Int) < l.length := by omega
 generalize bs l = B at *
 simp -implicitDefEqProofs [x568, hz, hbig, hbig']
theorem zs7 (c : WordsCode code ext) (l : List UInt8) : ∃ m : Mem, callW code ext 452 [strV (bs l)] [] = some (avb true, m) := by
 have h2 := znd c.r (c.all 512 _ rfl) l
 by_cases hbig : 65536 < l.length
 ·rw [if_pos hbig] at h2
  exact zto c l 0 3 (zs8 c.m.l l hbig) h2
 ·rw [if_neg hbig] at h2
  cases hw : wordsL l 0 with
  | inr m =>
   rw [hw] at h2
   exact zto c l m 4 (ztk c.m.l l (by omega) hw) h2
  | inl ws =>
   rw [hw] at h2
   dsimp only at h2
   by_cases h0 : ws.length = 0
   ·have : ws = [] := List.eq_nil_of_length_eq_zero h0
    subst this
    exact zto c l 0 0 (ztn c.m.l l (by omega) hw) h2
   ·unfold lV lwM at h2
    rw [if_neg h0, if_neg h0] at h2
    exact ztl c l ws h0 (by have hb := ((ztb l 0).1 ws hw).1; omega) (ztq c.m.l l (by omega) hw h0) h2
end
theorem mark5z : MarkCode code5z (ext5 dig) := ⟨lex5z, rfl, rfl, rfl, rfl, rfl⟩
theorem zho (a : ByteArray) : ∃ m : Mem, callW code5z (ext5 dig) 452 [strV a] [] = some (avb true, m) := by
 have h := zs7 (code := code5z) (ext := ext5 dig) ⟨mark5z, ref5z, fun _ _ h => h⟩ a.data.toList
 rwa [bs_of] at h
end Go.EX

