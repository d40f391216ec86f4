import Derived.Test.YtfmpeoickjggiaaGreatDoorE9q
set_option maxHeartbeats 4000000
set_option linter.unusedVariables false
set_option linter.unusedSimpArgs false
namespace Go.EX
section
variable {code : Nat → Option XFun} {ext : Calls'}
theorem repI_at (x : Int) {n j : Nat} (h : j < n) : (rowI (List.replicate n x))[j]? = some (.val (.int .i64 x)) := by
  rw [rowI_get, List.getElem?_replicate, if_pos h]; rfl
theorem lookP0_loop (h : code 391 = some x391) (n : Nat) (m2 m3 : Bool) (hn : n ≤ 20000) {s : St}
    (hst : s.tidy [0, 3, 4, 5] = ⟨6, [(0, .optr 0 0), (3, int64 0), (4, .optr 6 0), (5, int64 0)], [.rich (bookI 2 (.osl 1 0 3 2 none)), .rich [.osl 2 0 1 n none, .osl 3 0 1 (n + 40) none, int64 1, .osl 4 0 1 n none, .osl 5 0 1 (n + 40) none, int64 2], .fix (rowI (List.replicate (n) (-1001))) m2 false, .fix (rowI (List.replicate (n + 40) (-1001))) false true, .fix (rowI (List.replicate (n) (-1002))) m3 false, .fix (rowI (List.replicate (n + 40) (-1002))) false true, .rich [.osl 2 0 1 n none, .osl 3 0 1 (n + 40) none, int64 1]]⟩) :
    den code ext (.loop [0, 3, 4, 5] x75L1) s = some (.exit 2, ⟨6, [(0, .optr 0 0), (3, int64 0), (4, .optr 6 0), (5, int64 (n + 40 : Nat)), (34, avb false)], [.rich (bookI 2 (.osl 1 0 3 2 none)), .rich [.osl 2 0 1 n none, .osl 3 0 1 (n + 40) none, int64 1, .osl 4 0 1 n none, .osl 5 0 1 (n + 40) none, int64 2], .fix (rowI (List.replicate (n) (-1001))) m2 false, .fix (rowI (List.replicate (n + 40) (-1001))) false true, .fix (rowI (List.replicate (n) (-1002))) m3 false, .fix (rowI (List.replicate (n + 40) (-1002))) false true, .rich [.osl 2 0 1 n none, .osl 3 0 1 (n + 40) none, int64 1]]⟩) := by
  obtain ⟨e, s', h2, _, rfl, rfl⟩ := loop_rule (code := code) (ext := ext) (keep := [0, 3, 4, 5]) (b := x75L1) (fun c s => ∃ j : Nat, j + c = n + 40 ∧ s.tidy [0, 3, 4, 5] = ⟨6, [(0, .optr 0 0), (3, int64 0), (4, .optr 6 0), (5, int64 (j : Nat))], [.rich (bookI 2 (.osl 1 0 3 2 none)), .rich [.osl 2 0 1 n none, .osl 3 0 1 (n + 40) none, int64 1, .osl 4 0 1 n none, .osl 5 0 1 (n + 40) none, int64 2], .fix (rowI (List.replicate (n) (-1001))) m2 false, .fix (rowI (List.replicate (n + 40) (-1001))) false true, .fix (rowI (List.replicate (n) (-1002))) m3 false, .fix (rowI (List.replicate (n + 40) (-1002))) false true, .rich [.osl 2 0 1 n none, .osl 3 0 1 (n + 40) none, int64 1]]⟩)
    (fun e s' => e = .exit 2 ∧ s' = ⟨6, [(0, .optr 0 0), (3, int64 0), (4, .optr 6 0), (5, int64 (n + 40 : Nat)), (34, avb false)], [.rich (bookI 2 (.osl 1 0 3 2 none)), .rich [.osl 2 0 1 n none, .osl 3 0 1 (n + 40) none, int64 1, .osl 4 0 1 n none, .osl 5 0 1 (n + 40) none, int64 2], .fix (rowI (List.replicate (n) (-1001))) m2 false, .fix (rowI (List.replicate (n + 40) (-1001))) false true, .fix (rowI (List.replicate (n) (-1002))) m3 false, .fix (rowI (List.replicate (n + 40) (-1002))) false true, .rich [.osl 2 0 1 n none, .osl 3 0 1 (n + 40) none, int64 1]]⟩) (fun c s => by
    rintro ⟨j, hj, hst⟩
    rw [hst]
    have his : callW code ext 391 [int64 (-1001), int64 1] [] = some (avb true, []) := isI_spec (ext := ext) h 1 (by omega) (by omega)
    by_cases hlt : j < n + 40
    · have e1 : IntKind.wrap .i64 ((j : Int) + 1) = (j : Int) + 1 := wrapI64 (by omega) (by omega)
      have hlt' : (j : Int) < (n + 40 : Nat) := by omega
      have hlt2 : (j : Int) < (n : Int) + 40 := by omega
      have hc1 := repI_at (-1001) hlt
      by_cases hl : j < n
      · have hc2 := repI_at (-1001) hl
        have hl' : (j : Int) < n := by omega
        refine ⟨.normal, ⟨6, [(0, .optr 0 0), (3, int64 0), (4, .optr 6 0), (5, int64 ((j : Int) + 1))], [.rich (bookI 2 (.osl 1 0 3 2 none)), .rich [.osl 2 0 1 n none, .osl 3 0 1 (n + 40) none, int64 1, .osl 4 0 1 n none, .osl 5 0 1 (n + 40) none, int64 2], .fix (rowI (List.replicate (n) (-1001))) m2 false, .fix (rowI (List.replicate (n + 40) (-1001))) false true, .fix (rowI (List.replicate (n) (-1002))) m3 false, .fix (rowI (List.replicate (n + 40) (-1002))) false true, .rich [.osl 2 0 1 n none, .osl 3 0 1 (n + 40) none, int64 1]]⟩, ?_, .inl ⟨rfl, c - 1, by omega, j + 1, by omega, ?_⟩⟩
        generalize rowI (List.replicate (n + 40) (-1002)) = H0 at *
        generalize rowI (List.replicate (n) (-1002)) = H1 at *
        generalize rowI (List.replicate (n + 40) (-1001)) = H2 at *
        generalize rowI (List.replicate (n) (-1001)) = H3 at *
        · simp -implicitDefEqProofs [x75L1, hlt', hlt2, hlt, his, hc1, hl, hl', hc2, e1, bookI, nilB]
        · simp -implicitDefEqProofs [bookI, nilB]
      · have hl' : ¬ (j : Int) < n := by omega
        refine ⟨.normal, ⟨6, [(0, .optr 0 0), (3, int64 0), (4, .optr 6 0), (5, int64 ((j : Int) + 1))], [.rich (bookI 2 (.osl 1 0 3 2 none)), .rich [.osl 2 0 1 n none, .osl 3 0 1 (n + 40) none, int64 1, .osl 4 0 1 n none, .osl 5 0 1 (n + 40) none, int64 2], .fix (rowI (List.replicate (n) (-1001))) m2 false, .fix (rowI (List.replicate (n + 40) (-1001))) false true, .fix (rowI (List.replicate (n) (-1002))) m3 false, .fix (rowI (List.replicate (n + 40) (-1002))) false true, .rich [.osl 2 0 1 n none, .osl 3 0 1 (n + 40) none, int64 1]]⟩, ?_, .inl ⟨rfl, c - 1, by omega, j + 1, by omega, ?_⟩⟩
        generalize rowI (List.replicate (n + 40) (-1002)) = H0 at *
        generalize rowI (List.replicate (n) (-1002)) = H1 at *
        generalize rowI (List.replicate (n + 40) (-1001)) = H2 at *
        generalize rowI (List.replicate (n) (-1001)) = H3 at *
        · simp -implicitDefEqProofs [x75L1, hlt', hlt2, hlt, his, hc1, hl, hl', e1, bookI, nilB]
        · simp -implicitDefEqProofs [bookI, nilB]
    · have : j = n + 40 := by omega
      subst this
      refine ⟨.exit 2, _, ?_, .inr ⟨by simp, rfl, rfl⟩⟩
      simp -implicitDefEqProofs [x75L1, bookI, nilB]) (n + 40) s ⟨0, by simp, hst⟩
  exact h2
theorem lookP0_item (h : code 391 = some x391) (n : Nat) (m2 m3 : Bool) (hn : n ≤ 20000) :
    den code ext x75L2 ⟨6, [(0, .optr 0 0), (3, int64 0)], [.rich (bookI 2 (.osl 1 0 3 2 none)), .rich [.osl 2 0 1 n none, .osl 3 0 1 (n + 40) none, int64 1, .osl 4 0 1 n none, .osl 5 0 1 (n + 40) none, int64 2], .fix (rowI (List.replicate (n) (-1001))) m2 false, .fix (rowI (List.replicate (n + 40) (-1001))) false true, .fix (rowI (List.replicate (n) (-1002))) m3 false, .fix (rowI (List.replicate (n + 40) (-1002))) false true]⟩ = some (.normal, ⟨6, [(0, .optr 0 0), (3, int64 1)], [.rich (bookI 2 (.osl 1 0 3 2 none)), .rich [.osl 2 0 1 n none, .osl 3 0 1 (n + 40) none, int64 1, .osl 4 0 1 n none, .osl 5 0 1 (n + 40) none, int64 2], .fix (rowI (List.replicate (n) (-1001))) m2 false, .fix (rowI (List.replicate (n + 40) (-1001))) false true, .fix (rowI (List.replicate (n) (-1002))) m3 false, .fix (rowI (List.replicate (n + 40) (-1002))) false true, .rich [.osl 2 0 1 n none, .osl 3 0 1 (n + 40) none, int64 1]]⟩) := by
  have e1 : IntKind.wrap .i64 1 = 1 := by decide
  have e2 : IntKind.wrap .i64 ((n : Int) + 40) = ((n : Int) + 40) := wrapI64 (by omega) (by omega)
  have hl := lookP0_loop (ext := ext) h n m2 m3 hn (s := ⟨6, [(0, .optr 0 0), (3, int64 0), (4, .optr 6 0), (5, int64 0)], [.rich (bookI 2 (.osl 1 0 3 2 none)), .rich [.osl 2 0 1 n none, .osl 3 0 1 (n + 40) none, int64 1, .osl 4 0 1 n none, .osl 5 0 1 (n + 40) none, int64 2], .fix (rowI (List.replicate (n) (-1001))) m2 false, .fix (rowI (List.replicate (n + 40) (-1001))) false true, .fix (rowI (List.replicate (n) (-1002))) m3 false, .fix (rowI (List.replicate (n + 40) (-1002))) false true, .rich [.osl 2 0 1 n none, .osl 3 0 1 (n + 40) none, int64 1]]⟩) (by
    generalize rowI (List.replicate (n + 40) (-1002)) = H0
    generalize rowI (List.replicate (n) (-1002)) = H1
    generalize rowI (List.replicate (n + 40) (-1001)) = H2
    generalize rowI (List.replicate (n) (-1001)) = H3
    simp -implicitDefEqProofs [bookI, nilB])
  simp only [bookI, nilB] at hl
  generalize rowI (List.replicate (n + 40) (-1002)) = H0 at *
  generalize rowI (List.replicate (n) (-1002)) = H1 at *
  generalize rowI (List.replicate (n + 40) (-1001)) = H2 at *
  generalize rowI (List.replicate (n) (-1001)) = H3 at *
  simp -implicitDefEqProofs [x75L2, e1, e2, hl, bookI, nilB]
theorem lookP1_loop (h : code 391 = some x391) (n : Nat) (m2 m3 : Bool) (hn : n ≤ 20000) {s : St}
    (hst : s.tidy [0, 3, 4, 5] = ⟨6, [(0, .optr 0 0), (3, int64 1), (4, .optr 6 0), (5, int64 0)], [.rich (bookI 2 (.osl 1 0 3 2 none)), .rich [.osl 2 0 1 n none, .osl 3 0 1 (n + 40) none, int64 1, .osl 4 0 1 n none, .osl 5 0 1 (n + 40) none, int64 2], .fix (rowI (List.replicate (n) (-1001))) m2 false, .fix (rowI (List.replicate (n + 40) (-1001))) false true, .fix (rowI (List.replicate (n) (-1002))) m3 false, .fix (rowI (List.replicate (n + 40) (-1002))) false true, .rich [.osl 4 0 1 n none, .osl 5 0 1 (n + 40) none, int64 2]]⟩) :
    den code ext (.loop [0, 3, 4, 5] x75L1) s = some (.exit 2, ⟨6, [(0, .optr 0 0), (3, int64 1), (4, .optr 6 0), (5, int64 (n + 40 : Nat)), (34, avb false)], [.rich (bookI 2 (.osl 1 0 3 2 none)), .rich [.osl 2 0 1 n none, .osl 3 0 1 (n + 40) none, int64 1, .osl 4 0 1 n none, .osl 5 0 1 (n + 40) none, int64 2], .fix (rowI (List.replicate (n) (-1001))) m2 false, .fix (rowI (List.replicate (n + 40) (-1001))) false true, .fix (rowI (List.replicate (n) (-1002))) m3 false, .fix (rowI (List.replicate (n + 40) (-1002))) false true, .rich [.osl 4 0 1 n none, .osl 5 0 1 (n + 40) none, int64 2]]⟩) := by
  obtain ⟨e, s', h2, _, rfl, rfl⟩ := loop_rule (code := code) (ext := ext) (keep := [0, 3, 4, 5]) (b := x75L1) (fun c s => ∃ j : Nat, j + c = n + 40 ∧ s.tidy [0, 3, 4, 5] = ⟨6, [(0, .optr 0 0), (3, int64 1), (4, .optr 6 0), (5, int64 (j : Nat))], [.rich (bookI 2 (.osl 1 0 3 2 none)), .rich [.osl 2 0 1 n none, .osl 3 0 1 (n + 40) none, int64 1, .osl 4 0 1 n none, .osl 5 0 1 (n + 40) none, int64 2], .fix (rowI (List.replicate (n) (-1001))) m2 false, .fix (rowI (List.replicate (n + 40) (-1001))) false true, .fix (rowI (List.replicate (n) (-1002))) m3 false, .fix (rowI (List.replicate (n + 40) (-1002))) false true, .rich [.osl 4 0 1 n none, .osl 5 0 1 (n + 40) none, int64 2]]⟩)
    (fun e s' => e = .exit 2 ∧ s' = ⟨6, [(0, .optr 0 0), (3, int64 1), (4, .optr 6 0), (5, int64 (n + 40 : Nat)), (34, avb false)], [.rich (bookI 2 (.osl 1 0 3 2 none)), .rich [.osl 2 0 1 n none, .osl 3 0 1 (n + 40) none, int64 1, .osl 4 0 1 n none, .osl 5 0 1 (n + 40) none, int64 2], .fix (rowI (List.replicate (n) (-1001))) m2 false, .fix (rowI (List.replicate (n + 40) (-1001))) false true, .fix (rowI (List.replicate (n) (-1002))) m3 false, .fix (rowI (List.replicate (n + 40) (-1002))) false true, .rich [.osl 4 0 1 n none, .osl 5 0 1 (n + 40) none, int64 2]]⟩) (fun c s => by
    rintro ⟨j, hj, hst⟩
    rw [hst]
    have his : callW code ext 391 [int64 (-1002), int64 2] [] = some (avb true, []) := isI_spec (ext := ext) h 2 (by omega) (by omega)
    by_cases hlt : j < n + 40
    · have e1 : IntKind.wrap .i64 ((j : Int) + 1) = (j : Int) + 1 := wrapI64 (by omega) (by omega)
      have hlt' : (j : Int) < (n + 40 : Nat) := by omega
      have hlt2 : (j : Int) < (n : Int) + 40 := by omega
      have hc1 := repI_at (-1002) hlt
      by_cases hl : j < n
      · have hc2 := repI_at (-1002) hl
        have hl' : (j : Int) < n := by omega
        refine ⟨.normal, ⟨6, [(0, .optr 0 0), (3, int64 1), (4, .optr 6 0), (5, int64 ((j : Int) + 1))], [.rich (bookI 2 (.osl 1 0 3 2 none)), .rich [.osl 2 0 1 n none, .osl 3 0 1 (n + 40) none, int64 1, .osl 4 0 1 n none, .osl 5 0 1 (n + 40) none, int64 2], .fix (rowI (List.replicate (n) (-1001))) m2 false, .fix (rowI (List.replicate (n + 40) (-1001))) false true, .fix (rowI (List.replicate (n) (-1002))) m3 false, .fix (rowI (List.replicate (n + 40) (-1002))) false true, .rich [.osl 4 0 1 n none, .osl 5 0 1 (n + 40) none, int64 2]]⟩, ?_, .inl ⟨rfl, c - 1, by omega, j + 1, by omega, ?_⟩⟩
        generalize rowI (List.replicate (n + 40) (-1001)) = H0 at *
        generalize rowI (List.replicate (n) (-1001)) = H1 at *
        generalize rowI (List.replicate (n + 40) (-1002)) = H2 at *
        generalize rowI (List.replicate (n) (-1002)) = H3 at *
        · simp -implicitDefEqProofs [x75L1, hlt', hlt2, hlt, his, hc1, hl, hl', hc2, e1, bookI, nilB]
        · simp -implicitDefEqProofs [bookI, nilB]
      · have hl' : ¬ (j : Int) < n := by omega
        refine ⟨.normal, ⟨6, [(0, .optr 0 0), (3, int64 1), (4, .optr 6 0), (5, int64 ((j : Int) + 1))], [.rich (bookI 2 (.osl 1 0 3 2 none)), .rich [.osl 2 0 1 n none, .osl 3 0 1 (n + 40) none, int64 1, .osl 4 0 1 n none, .osl 5 0 1 (n + 40) none, int64 2], .fix (rowI (List.replicate (n) (-1001))) m2 false, .fix (rowI (List.replicate (n + 40) (-1001))) false true, .fix (rowI (List.replicate (n) (-1002))) m3 false, .fix (rowI (List.replicate (n + 40) (-1002))) false true, .rich [.osl 4 0 1 n none, .osl 5 0 1 (n + 40) none, int64 2]]⟩, ?_, .inl ⟨rfl, c - 1, by omega, j + 1, by omega, ?_⟩⟩
        generalize rowI (List.replicate (n + 40) (-1001)) = H0 at *
        generalize rowI (List.replicate (n) (-1001)) = H1 at *
        generalize rowI (List.replicate (n + 40) (-1002)) = H2 at *
        generalize rowI (List.replicate (n) (-1002)) = H3 at *
        · simp -implicitDefEqProofs [x75L1, hlt', hlt2, hlt, his, hc1, hl, hl', e1, bookI, nilB]
        · simp -implicitDefEqProofs [bookI, nilB]
    · have : j = n + 40 := by omega
      subst this
      refine ⟨.exit 2, _, ?_, .inr ⟨by simp, rfl, rfl⟩⟩
      simp -implicitDefEqProofs [x75L1, bookI, nilB]) (n + 40) s ⟨0, by simp, hst⟩
  exact h2
theorem lookP1_item (h : code 391 = some x391) (n : Nat) (m2 m3 : Bool) (hn : n ≤ 20000) :
    den code ext x75L2 ⟨6, [(0, .optr 0 0), (3, int64 1)], [.rich (bookI 2 (.osl 1 0 3 2 none)), .rich [.osl 2 0 1 n none, .osl 3 0 1 (n + 40) none, int64 1, .osl 4 0 1 n none, .osl 5 0 1 (n + 40) none, int64 2], .fix (rowI (List.replicate (n) (-1001))) m2 false, .fix (rowI (List.replicate (n + 40) (-1001))) false true, .fix (rowI (List.replicate (n) (-1002))) m3 false, .fix (rowI (List.replicate (n + 40) (-1002))) false true]⟩ = some (.normal, ⟨6, [(0, .optr 0 0), (3, int64 2)], [.rich (bookI 2 (.osl 1 0 3 2 none)), .rich [.osl 2 0 1 n none, .osl 3 0 1 (n + 40) none, int64 1, .osl 4 0 1 n none, .osl 5 0 1 (n + 40) none, int64 2], .fix (rowI (List.replicate (n) (-1001))) m2 false, .fix (rowI (List.replicate (n + 40) (-1001))) false true, .fix (rowI (List.replicate (n) (-1002))) m3 false, .fix (rowI (List.replicate (n + 40) (-1002))) false true, .rich [.osl 4 0 1 n none, .osl 5 0 1 (n + 40) none, int64 2]]⟩) := by
  have e1 : IntKind.wrap .i64 2 = 2 := by decide
  have e2 : IntKind.wrap .i64 ((n : Int) + 40) = ((n : Int) + 40) := wrapI64 (by omega) (by omega)
  have hl := lookP1_loop (ext := ext) h n m2 m3 hn (s := ⟨6, [(0, .optr 0 0), (3, int64 1), (4, .optr 6 0), (5, int64 0)], [.rich (bookI 2 (.osl 1 0 3 2 none)), .rich [.osl 2 0 1 n none, .osl 3 0 1 (n + 40) none, int64 1, .osl 4 0 1 n none, .osl 5 0 1 (n + 40) none, int64 2], .fix (rowI (List.replicate (n) (-1001))) m2 false, .fix (rowI (List.replicate (n + 40) (-1001))) false true, .fix (rowI (List.replicate (n) (-1002))) m3 false, .fix (rowI (List.replicate (n + 40) (-1002))) false true, .rich [.osl 4 0 1 n none, .osl 5 0 1 (n + 40) none, int64 2]]⟩) (by
    generalize rowI (List.replicate (n + 40) (-1001)) = H0
    generalize rowI (List.replicate (n) (-1001)) = H1
    generalize rowI (List.replicate (n + 40) (-1002)) = H2
    generalize rowI (List.replicate (n) (-1002)) = H3
    simp -implicitDefEqProofs [bookI, nilB])
  simp only [bookI, nilB] at hl
  generalize rowI (List.replicate (n + 40) (-1001)) = H0 at *
  generalize rowI (List.replicate (n) (-1001)) = H1 at *
  generalize rowI (List.replicate (n + 40) (-1002)) = H2 at *
  generalize rowI (List.replicate (n) (-1002)) = H3 at *
  simp -implicitDefEqProofs [x75L2, e1, e2, hl, bookI, nilB]
theorem lookP_spec (h : code 391 = some x391) (h75 : code 75 = some x75) (n : Nat) (m2 m3 : Bool) (hn : n ≤ 20000) :
    callW code ext 75 [.optr 0 0] [.rich (bookI 2 (.osl 1 0 3 2 none)), .rich [.osl 2 0 1 n none, .osl 3 0 1 (n + 40) none, int64 1, .osl 4 0 1 n none, .osl 5 0 1 (n + 40) none, int64 2], .fix (rowI (List.replicate (n) (-1001))) m2 false, .fix (rowI (List.replicate (n + 40) (-1001))) false true, .fix (rowI (List.replicate (n) (-1002))) m3 false, .fix (rowI (List.replicate (n + 40) (-1002))) false true] = some (avb true, [.rich (bookI 2 (.osl 1 0 3 2 none)), .rich [.osl 2 0 1 n none, .osl 3 0 1 (n + 40) none, int64 1, .osl 4 0 1 n none, .osl 5 0 1 (n + 40) none, int64 2], .fix (rowI (List.replicate (n) (-1001))) m2 false, .fix (rowI (List.replicate (n + 40) (-1001))) false true, .fix (rowI (List.replicate (n) (-1002))) m3 false, .fix (rowI (List.replicate (n + 40) (-1002))) false true]) := by
  have i0 := lookP0_item (ext := ext) h n m2 m3 hn
  have i1 := lookP1_item (ext := ext) h n m2 m3 hn
  have hT : ∀ (i : Int) (J : Mem), J = [] ∨ J = [.rich [.osl 2 0 1 n none, .osl 3 0 1 (n + 40) none, int64 1]] ∨ J = [.rich [.osl 4 0 1 n none, .osl 5 0 1 (n + 40) none, int64 2]] → (⟨6, [(0, .optr 0 0), (3, int64 i)], [.rich (bookI 2 (.osl 1 0 3 2 none)), .rich [.osl 2 0 1 n none, .osl 3 0 1 (n + 40) none, int64 1, .osl 4 0 1 n none, .osl 5 0 1 (n + 40) none, int64 2], .fix (rowI (List.replicate (n) (-1001))) m2 false, .fix (rowI (List.replicate (n + 40) (-1001))) false true, .fix (rowI (List.replicate (n) (-1002))) m3 false, .fix (rowI (List.replicate (n + 40) (-1002))) false true] ++ J⟩ : St).tidy [0, 3] = ⟨6, [(0, .optr 0 0), (3, int64 i)], [.rich (bookI 2 (.osl 1 0 3 2 none)), .rich [.osl 2 0 1 n none, .osl 3 0 1 (n + 40) none, int64 1, .osl 4 0 1 n none, .osl 5 0 1 (n + 40) none, int64 2], .fix (rowI (List.replicate (n) (-1001))) m2 false, .fix (rowI (List.replicate (n + 40) (-1001))) false true, .fix (rowI (List.replicate (n) (-1002))) m3 false, .fix (rowI (List.replicate (n + 40) (-1002))) false true]⟩ := by
    intro i J hJ
    clear i0 i1
    generalize rowI (List.replicate (n) (-1001)) = H0
    generalize rowI (List.replicate (n + 40) (-1001)) = H1
    generalize rowI (List.replicate (n) (-1002)) = H2
    generalize rowI (List.replicate (n + 40) (-1002)) = H3
    rcases hJ with rfl | rfl | rfl <;> simp -implicitDefEqProofs [bookI, nilB]
  have i3 : ∀ M : Mem, M = [.rich (bookI 2 (.osl 1 0 3 2 none)), .rich [.osl 2 0 1 n none, .osl 3 0 1 (n + 40) none, int64 1, .osl 4 0 1 n none, .osl 5 0 1 (n + 40) none, int64 2], .fix (rowI (List.replicate (n) (-1001))) m2 false, .fix (rowI (List.replicate (n + 40) (-1001))) false true, .fix (rowI (List.replicate (n) (-1002))) m3 false, .fix (rowI (List.replicate (n + 40) (-1002))) false true] → ∃ e, den code ext x75L2 ⟨6, [(0, .optr 0 0), (3, int64 2)], M⟩ = some (.exit 0, ⟨6, e, M⟩) := by
    rintro M rfl
    clear i0 i1 hT
    exact ⟨[(0, .optr 0 0), (3, int64 2), (12, avb false)], by
      generalize rowI (List.replicate (n) (-1001)) = H0
      generalize rowI (List.replicate (n + 40) (-1001)) = H1
      generalize rowI (List.replicate (n) (-1002)) = H2
      generalize rowI (List.replicate (n + 40) (-1002)) = H3
      simp -implicitDefEqProofs [x75L2, bookI, nilB]⟩
  obtain ⟨e, i3⟩ := i3 _ rfl
  have hL : den code ext (.loop [0, 3] x75L2) ⟨6, [(0, .optr 0 0), (3, int64 0)], [.rich (bookI 2 (.osl 1 0 3 2 none)), .rich [.osl 2 0 1 n none, .osl 3 0 1 (n + 40) none, int64 1, .osl 4 0 1 n none, .osl 5 0 1 (n + 40) none, int64 2], .fix (rowI (List.replicate (n) (-1001))) m2 false, .fix (rowI (List.replicate (n + 40) (-1001))) false true, .fix (rowI (List.replicate (n) (-1002))) m3 false, .fix (rowI (List.replicate (n + 40) (-1002))) false true]⟩ = some (.exit 0, ⟨6, e, [.rich (bookI 2 (.osl 1 0 3 2 none)), .rich [.osl 2 0 1 n none, .osl 3 0 1 (n + 40) none, int64 1, .osl 4 0 1 n none, .osl 5 0 1 (n + 40) none, int64 2], .fix (rowI (List.replicate (n) (-1001))) m2 false, .fix (rowI (List.replicate (n + 40) (-1001))) false true, .fix (rowI (List.replicate (n) (-1002))) m3 false, .fix (rowI (List.replicate (n + 40) (-1002))) false true]⟩) := by
    have t0 := hT 0 [] (.inl rfl)
    have t1 := hT 1 _ (.inr (.inl rfl))
    have t2 := hT 2 _ (.inr (.inr rfl))
    simp only [List.cons_append, List.nil_append] at t0 t1 t2
    rw [den_loop, t0, i0]
    simp only [andThen]
    rw [den_loop, t1, i1]
    simp only [andThen]
    rw [den_loop, t2, i3]
    rfl
  clear hT i0 i1 i3
  rw [callW_fun code ext h75]
  simp only [bookI, nilB] at hL
  generalize rowI (List.replicate (n) (-1001)) = H0 at *
  generalize rowI (List.replicate (n + 40) (-1001)) = H1 at *
  generalize rowI (List.replicate (n) (-1002)) = H2 at *
  generalize rowI (List.replicate (n + 40) (-1002)) = H3 at *
  simp -implicitDefEqProofs [x75, hL, bookI, nilB]
theorem lookZ0_loop (h : code 391 = some x391) (q : Nat) (hq : q = 40)  {s : St}
    (hst : s.tidy [0, 3, 4, 5] = ⟨4, [(0, .optr 0 0), (3, int64 0), (4, .optr 4 0), (5, int64 0)], [.rich (bookI 2 (.osl 1 0 3 2 none)), .rich [nilB, .osl 2 0 1 q none, int64 1, nilB, .osl 3 0 1 q none, int64 2], .fix (rowI (List.replicate (q) (-1001))) false true, .fix (rowI (List.replicate (q) (-1002))) false true, .rich [nilB, .osl 2 0 1 q none, int64 1]]⟩) :
    den code ext (.loop [0, 3, 4, 5] x75L1) s = some (.exit 2, ⟨4, [(0, .optr 0 0), (3, int64 0), (4, .optr 4 0), (5, int64 (q : Nat)), (34, avb false)], [.rich (bookI 2 (.osl 1 0 3 2 none)), .rich [nilB, .osl 2 0 1 q none, int64 1, nilB, .osl 3 0 1 q none, int64 2], .fix (rowI (List.replicate (q) (-1001))) false true, .fix (rowI (List.replicate (q) (-1002))) false true, .rich [nilB, .osl 2 0 1 q none, int64 1]]⟩) := by
  obtain ⟨e, s', h2, _, rfl, rfl⟩ := loop_rule (code := code) (ext := ext) (keep := [0, 3, 4, 5]) (b := x75L1) (fun c s => ∃ j : Nat, j + c = q ∧ s.tidy [0, 3, 4, 5] = ⟨4, [(0, .optr 0 0), (3, int64 0), (4, .optr 4 0), (5, int64 (j : Nat))], [.rich (bookI 2 (.osl 1 0 3 2 none)), .rich [nilB, .osl 2 0 1 q none, int64 1, nilB, .osl 3 0 1 q none, int64 2], .fix (rowI (List.replicate (q) (-1001))) false true, .fix (rowI (List.replicate (q) (-1002))) false true, .rich [nilB, .osl 2 0 1 q none, int64 1]]⟩)
    (fun e s' => e = .exit 2 ∧ s' = ⟨4, [(0, .optr 0 0), (3, int64 0), (4, .optr 4 0), (5, int64 (q : Nat)), (34, avb false)], [.rich (bookI 2 (.osl 1 0 3 2 none)), .rich [nilB, .osl 2 0 1 q none, int64 1, nilB, .osl 3 0 1 q none, int64 2], .fix (rowI (List.replicate (q) (-1001))) false true, .fix (rowI (List.replicate (q) (-1002))) false true, .rich [nilB, .osl 2 0 1 q none, int64 1]]⟩) (fun c s => by
    rintro ⟨j, hj, hst⟩
    rw [hst]
    have his : callW code ext 391 [int64 (-1001), int64 1] [] = some (avb true, []) := isI_spec (ext := ext) h 1 (by omega) (by omega)
    by_cases hlt : j < q
    · have e1 : IntKind.wrap .i64 ((j : Int) + 1) = (j : Int) + 1 := wrapI64 (by omega) (by omega)
      have hlt' : (j : Int) < (q : Nat) := by omega
      have hlt2 : (j : Int) < (q : Int) := by omega
      have hc1 := repI_at (-1001) hlt
      have hl' : ¬ ((j : Int) < 0) := by omega
      refine ⟨.normal, ⟨4, [(0, .optr 0 0), (3, int64 0), (4, .optr 4 0), (5, int64 ((j : Int) + 1))], [.rich (bookI 2 (.osl 1 0 3 2 none)), .rich [nilB, .osl 2 0 1 q none, int64 1, nilB, .osl 3 0 1 q none, int64 2], .fix (rowI (List.replicate (q) (-1001))) false true, .fix (rowI (List.replicate (q) (-1002))) false true, .rich [nilB, .osl 2 0 1 q none, int64 1]]⟩, ?_, .inl ⟨rfl, c - 1, by omega, j + 1, by omega, ?_⟩⟩
      generalize rowI (List.replicate (q) (-1002)) = H0 at *
      generalize rowI (List.replicate (q) (-1001)) = H1 at *
      · simp -implicitDefEqProofs [x75L1, hlt', hlt2, hlt, his, hc1, hl', e1, bookI, nilB]
      · simp -implicitDefEqProofs [bookI, nilB]
    · have : j = q := by omega
      subst this
      refine ⟨.exit 2, _, ?_, .inr ⟨by simp, rfl, rfl⟩⟩
      simp -implicitDefEqProofs [x75L1, bookI, nilB]) (q) s ⟨0, by simp, hst⟩
  exact h2
theorem lookZ0_item (h : code 391 = some x391) (q : Nat) (hq : q = 40)  :
    den code ext x75L2 ⟨4, [(0, .optr 0 0), (3, int64 0)], [.rich (bookI 2 (.osl 1 0 3 2 none)), .rich [nilB, .osl 2 0 1 q none, int64 1, nilB, .osl 3 0 1 q none, int64 2], .fix (rowI (List.replicate (q) (-1001))) false true, .fix (rowI (List.replicate (q) (-1002))) false true]⟩ = some (.normal, ⟨4, [(0, .optr 0 0), (3, int64 1)], [.rich (bookI 2 (.osl 1 0 3 2 none)), .rich [nilB, .osl 2 0 1 q none, int64 1, nilB, .osl 3 0 1 q none, int64 2], .fix (rowI (List.replicate (q) (-1001))) false true, .fix (rowI (List.replicate (q) (-1002))) false true, .rich [nilB, .osl 2 0 1 q none, int64 1]]⟩) := by
  have e1 : IntKind.wrap .i64 1 = 1 := by decide
  have e2 : IntKind.wrap .i64 40 = 40 := wrapI64 (by omega) (by omega)
  have hqi : (q : Int) = 40 := by omega
  have hl := lookZ0_loop (ext := ext) h q hq (s := ⟨4, [(0, .optr 0 0), (3, int64 0), (4, .optr 4 0), (5, int64 0)], [.rich (bookI 2 (.osl 1 0 3 2 none)), .rich [nilB, .osl 2 0 1 q none, int64 1, nilB, .osl 3 0 1 q none, int64 2], .fix (rowI (List.replicate (q) (-1001))) false true, .fix (rowI (List.replicate (q) (-1002))) false true, .rich [nilB, .osl 2 0 1 q none, int64 1]]⟩) (by
    generalize rowI (List.replicate (q) (-1002)) = H0
    generalize rowI (List.replicate (q) (-1001)) = H1
    simp -implicitDefEqProofs [bookI, nilB])
  simp only [bookI, nilB] at hl
  generalize rowI (List.replicate (q) (-1002)) = H0 at *
  generalize rowI (List.replicate (q) (-1001)) = H1 at *
  simp -implicitDefEqProofs [x75L2, e1, e2, hl, hqi, bookI, nilB]
theorem lookZ1_loop (h : code 391 = some x391) (q : Nat) (hq : q = 40)  {s : St}
    (hst : s.tidy [0, 3, 4, 5] = ⟨4, [(0, .optr 0 0), (3, int64 1), (4, .optr 4 0), (5, int64 0)], [.rich (bookI 2 (.osl 1 0 3 2 none)), .rich [nilB, .osl 2 0 1 q none, int64 1, nilB, .osl 3 0 1 q none, int64 2], .fix (rowI (List.replicate (q) (-1001))) false true, .fix (rowI (List.replicate (q) (-1002))) false true, .rich [nilB, .osl 3 0 1 q none, int64 2]]⟩) :
    den code ext (.loop [0, 3, 4, 5] x75L1) s = some (.exit 2, ⟨4, [(0, .optr 0 0), (3, int64 1), (4, .optr 4 0), (5, int64 (q : Nat)), (34, avb false)], [.rich (bookI 2 (.osl 1 0 3 2 none)), .rich [nilB, .osl 2 0 1 q none, int64 1, nilB, .osl 3 0 1 q none, int64 2], .fix (rowI (List.replicate (q) (-1001))) false true, .fix (rowI (List.replicate (q) (-1002))) false true, .rich [nilB, .osl 3 0 1 q none, int64 2]]⟩) := by
  obtain ⟨e, s', h2, _, rfl, rfl⟩ := loop_rule (code := code) (ext := ext) (keep := [0, 3, 4, 5]) (b := x75L1) (fun c s => ∃ j : Nat, j + c = q ∧ s.tidy [0, 3, 4, 5] = ⟨4, [(0, .optr 0 0), (3, int64 1), (4, .optr 4 0), (5, int64 (j : Nat))], [.rich (bookI 2 (.osl 1 0 3 2 none)), .rich [nilB, .osl 2 0 1 q none, int64 1, nilB, .osl 3 0 1 q none, int64 2], .fix (rowI (List.replicate (q) (-1001))) false true, .fix (rowI (List.replicate (q) (-1002))) false true, .rich [nilB, .osl 3 0 1 q none, int64 2]]⟩)
    (fun e s' => e = .exit 2 ∧ s' = ⟨4, [(0, .optr 0 0), (3, int64 1), (4, .optr 4 0), (5, int64 (q : Nat)), (34, avb false)], [.rich (bookI 2 (.osl 1 0 3 2 none)), .rich [nilB, .osl 2 0 1 q none, int64 1, nilB, .osl 3 0 1 q none, int64 2], .fix (rowI (List.replicate (q) (-1001))) false true, .fix (rowI (List.replicate (q) (-1002))) false true, .rich [nilB, .osl 3 0 1 q none, int64 2]]⟩) (fun c s => by
    rintro ⟨j, hj, hst⟩
    rw [hst]
    have his : callW code ext 391 [int64 (-1002), int64 2] [] = some (avb true, []) := isI_spec (ext := ext) h 2 (by omega) (by omega)
    by_cases hlt : j < q
    · have e1 : IntKind.wrap .i64 ((j : Int) + 1) = (j : Int) + 1 := wrapI64 (by omega) (by omega)
      have hlt' : (j : Int) < (q : Nat) := by omega
      have hlt2 : (j : Int) < (q : Int) := by omega
      have hc1 := repI_at (-1002) hlt
      have hl' : ¬ ((j : Int) < 0) := by omega
      refine ⟨.normal, ⟨4, [(0, .optr 0 0), (3, int64 1), (4, .optr 4 0), (5, int64 ((j : Int) + 1))], [.rich (bookI 2 (.osl 1 0 3 2 none)), .rich [nilB, .osl 2 0 1 q none, int64 1, nilB, .osl 3 0 1 q none, int64 2], .fix (rowI (List.replicate (q) (-1001))) false true, .fix (rowI (List.replicate (q) (-1002))) false true, .rich [nilB, .osl 3 0 1 q none, int64 2]]⟩, ?_, .inl ⟨rfl, c - 1, by omega, j + 1, by omega, ?_⟩⟩
      generalize rowI (List.replicate (q) (-1001)) = H0 at *
      generalize rowI (List.replicate (q) (-1002)) = H1 at *
      · simp -implicitDefEqProofs [x75L1, hlt', hlt2, hlt, his, hc1, hl', e1, bookI, nilB]
      · simp -implicitDefEqProofs [bookI, nilB]
    · have : j = q := by omega
      subst this
      refine ⟨.exit 2, _, ?_, .inr ⟨by simp, rfl, rfl⟩⟩
      simp -implicitDefEqProofs [x75L1, bookI, nilB]) (q) s ⟨0, by simp, hst⟩
  exact h2
theorem lookZ1_item (h : code 391 = some x391) (q : Nat) (hq : q = 40)  :
    den code ext x75L2 ⟨4, [(0, .optr 0 0), (3, int64 1)], [.rich (bookI 2 (.osl 1 0 3 2 none)), .rich [nilB, .osl 2 0 1 q none, int64 1, nilB, .osl 3 0 1 q none, int64 2], .fix (rowI (List.replicate (q) (-1001))) false true, .fix (rowI (List.replicate (q) (-1002))) false true]⟩ = some (.normal, ⟨4, [(0, .optr 0 0), (3, int64 2)], [.rich (bookI 2 (.osl 1 0 3 2 none)), .rich [nilB, .osl 2 0 1 q none, int64 1, nilB, .osl 3 0 1 q none, int64 2], .fix (rowI (List.replicate (q) (-1001))) false true, .fix (rowI (List.replicate (q) (-1002))) false true, .rich [nilB, .osl 3 0 1 q none, int64 2]]⟩) := by
  have e1 : IntKind.wrap .i64 2 = 2 := by decide
  have e2 : IntKind.wrap .i64 40 = 40 := wrapI64 (by omega) (by omega)
  have hqi : (q : Int) = 40 := by omega
  have hl := lookZ1_loop (ext := ext) h q hq (s := ⟨4, [(0, .optr 0 0), (3, int64 1), (4, .optr 4 0), (5, int64 0)], [.rich (bookI 2 (.osl 1 0 3 2 none)), .rich [nilB, .osl 2 0 1 q none, int64 1, nilB, .osl 3 0 1 q none, int64 2], .fix (rowI (List.replicate (q) (-1001))) false true, .fix (rowI (List.replicate (q) (-1002))) false true, .rich [nilB, .osl 3 0 1 q none, int64 2]]⟩) (by
    generalize rowI (List.replicate (q) (-1001)) = H0
    generalize rowI (List.replicate (q) (-1002)) = H1
    simp -implicitDefEqProofs [bookI, nilB])
  simp only [bookI, nilB] at hl
  generalize rowI (List.replicate (q) (-1001)) = H0 at *
  generalize rowI (List.replicate (q) (-1002)) = H1 at *
  simp -implicitDefEqProofs [x75L2, e1, e2, hl, hqi, bookI, nilB]
theorem lookZ_spec (h : code 391 = some x391) (h75 : code 75 = some x75) (q : Nat) (hq : q = 40)  :
    callW code ext 75 [.optr 0 0] [.rich (bookI 2 (.osl 1 0 3 2 none)), .rich [nilB, .osl 2 0 1 q none, int64 1, nilB, .osl 3 0 1 q none, int64 2], .fix (rowI (List.replicate (q) (-1001))) false true, .fix (rowI (List.replicate (q) (-1002))) false true] = some (avb true, [.rich (bookI 2 (.osl 1 0 3 2 none)), .rich [nilB, .osl 2 0 1 q none, int64 1, nilB, .osl 3 0 1 q none, int64 2], .fix (rowI (List.replicate (q) (-1001))) false true, .fix (rowI (List.replicate (q) (-1002))) false true]) := by
  have i0 := lookZ0_item (ext := ext) h q hq
  have i1 := lookZ1_item (ext := ext) h q hq
  have hT : ∀ (i : Int) (J : Mem), J = [] ∨ J = [.rich [nilB, .osl 2 0 1 q none, int64 1]] ∨ J = [.rich [nilB, .osl 3 0 1 q none, int64 2]] → (⟨4, [(0, .optr 0 0), (3, int64 i)], [.rich (bookI 2 (.osl 1 0 3 2 none)), .rich [nilB, .osl 2 0 1 q none, int64 1, nilB, .osl 3 0 1 q none, int64 2], .fix (rowI (List.replicate (q) (-1001))) false true, .fix (rowI (List.replicate (q) (-1002))) false true] ++ J⟩ : St).tidy [0, 3] = ⟨4, [(0, .optr 0 0), (3, int64 i)], [.rich (bookI 2 (.osl 1 0 3 2 none)), .rich [nilB, .osl 2 0 1 q none, int64 1, nilB, .osl 3 0 1 q none, int64 2], .fix (rowI (List.replicate (q) (-1001))) false true, .fix (rowI (List.replicate (q) (-1002))) false true]⟩ := by
    intro i J hJ
    clear i0 i1
    generalize rowI (List.replicate (q) (-1001)) = H0
    generalize rowI (List.replicate (q) (-1002)) = H1
    rcases hJ with rfl | rfl | rfl <;> simp -implicitDefEqProofs [bookI, nilB]
  have i3 : ∀ M : Mem, M = [.rich (bookI 2 (.osl 1 0 3 2 none)), .rich [nilB, .osl 2 0 1 q none, int64 1, nilB, .osl 3 0 1 q none, int64 2], .fix (rowI (List.replicate (q) (-1001))) false true, .fix (rowI (List.replicate (q) (-1002))) false true] → ∃ e, den code ext x75L2 ⟨4, [(0, .optr 0 0), (3, int64 2)], M⟩ = some (.exit 0, ⟨4, e, M⟩) := by
    rintro M rfl
    clear i0 i1 hT
    exact ⟨[(0, .optr 0 0), (3, int64 2), (12, avb false)], by
      generalize rowI (List.replicate (q) (-1001)) = H0
      generalize rowI (List.replicate (q) (-1002)) = H1
      simp -implicitDefEqProofs [x75L2, bookI, nilB]⟩
  obtain ⟨e, i3⟩ := i3 _ rfl
  have hL : den code ext (.loop [0, 3] x75L2) ⟨4, [(0, .optr 0 0), (3, int64 0)], [.rich (bookI 2 (.osl 1 0 3 2 none)), .rich [nilB, .osl 2 0 1 q none, int64 1, nilB, .osl 3 0 1 q none, int64 2], .fix (rowI (List.replicate (q) (-1001))) false true, .fix (rowI (List.replicate (q) (-1002))) false true]⟩ = some (.exit 0, ⟨4, e, [.rich (bookI 2 (.osl 1 0 3 2 none)), .rich [nilB, .osl 2 0 1 q none, int64 1, nilB, .osl 3 0 1 q none, int64 2], .fix (rowI (List.replicate (q) (-1001))) false true, .fix (rowI (List.replicate (q) (-1002))) false true]⟩) := by
    have t0 := hT 0 [] (.inl rfl)
    have t1 := hT 1 _ (.inr (.inl rfl))
    have t2 := hT 2 _ (.inr (.inr rfl))
    simp only [List.cons_append, List.nil_append] at t0 t1 t2
    rw [den_loop, t0, i0]
    simp only [andThen]
    rw [den_loop, t1, i1]
    simp only [andThen]
    rw [den_loop, t2, i3]
    rfl
  clear hT i0 i1 i3
  rw [callW_fun code ext h75]
  simp only [bookI, nilB] at hL
  generalize rowI (List.replicate (q) (-1001)) = H0 at *
  generalize rowI (List.replicate (q) (-1002)) = H1 at *
  simp -implicitDefEqProofs [x75, hL, bookI, nilB]
end
end Go.EX

