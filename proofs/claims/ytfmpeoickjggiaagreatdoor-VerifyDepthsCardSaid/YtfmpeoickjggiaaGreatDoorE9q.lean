import Derived.Test.YtfmpeoickjggiaaGreatDoorE9p
set_option maxHeartbeats 4000000
set_option linter.unusedVariables false
set_option linter.unusedSimpArgs false
namespace Go.EX
section
variable {code : Nat → Option XFun} {ext : Calls'}
theorem repI_len (n : Nat) (x : Int) : (rowI (List.replicate n x)).length = n := by rw [rowI_len]; simp
theorem repI_snoc (n : Nat) (x : Int) : rowI (List.replicate n x) ++ [.val (.int .i64 x)] = rowI (List.replicate (n + 1) x) := by
  rw [List.replicate_succ', rowI_app]; rfl
theorem growP0_long (h : code 411 = some x411) (n : Nat) (m2 m3 : Bool) (j0 : Nat) (hj0 : 0 < j0 ∧ j0 < 40) (hn : n ≤ 20000) {o : AObj} (ho : o = .flat (rowI (List.replicate (n + j0) (-1001))) false ∨ o = .fix (rowI (List.replicate (n + j0) (-1001))) false true) {s : St}
    (hst : s.tidy [0, 2, 3, 4, 5] = ⟨4, [(0, .optr 0 0), (2, int64 0), (3, .optr 4 0), (4, .osl 5 0 1 (n + j0) none), (5, int64 (j0 : Nat))], [.rich (bookI 2 (.osl 1 0 3 2 none)), .rich [.osl 2 0 1 n none, nilB, int64 1, .osl 3 0 1 n none, nilB, int64 2], .fix (rowI (List.replicate (n) (-1001))) m2 false, .flat (rowI (List.replicate (n) (-1002))) m3, .rich [.osl 2 0 1 n none, nilB, int64 1], o]⟩) :
    den code ext (.loop [0, 2, 3, 4, 5] x45L1) s = some (.exit 2, ⟨4, [(0, .optr 0 0), (2, int64 0), (3, .optr 4 0), (4, .osl 5 0 1 (n + 40) none), (5, int64 40), (25, avb false)], [.rich (bookI 2 (.osl 1 0 3 2 none)), .rich [.osl 2 0 1 n none, nilB, int64 1, .osl 3 0 1 n none, nilB, int64 2], .fix (rowI (List.replicate (n) (-1001))) m2 false, .flat (rowI (List.replicate (n) (-1002))) m3, .rich [.osl 2 0 1 n none, nilB, int64 1], .fix (rowI (List.replicate (n + 40) (-1001))) false true]⟩) := by
  obtain ⟨e, s', h2, _, rfl, rfl⟩ := loop_rule (code := code) (ext := ext) (keep := [0, 2, 3, 4, 5]) (b := x45L1) (fun c s => ∃ j o, 0 < j ∧ j + c = 40 ∧ (c = 0 → o = .fix (rowI (List.replicate (n + j) (-1001))) false true) ∧ (o = .flat (rowI (List.replicate (n + j) (-1001))) false ∨ o = .fix (rowI (List.replicate (n + j) (-1001))) false true) ∧ s.tidy [0, 2, 3, 4, 5] = ⟨4, [(0, .optr 0 0), (2, int64 0), (3, .optr 4 0), (4, .osl 5 0 1 (n + j) none), (5, int64 (j : Nat))], [.rich (bookI 2 (.osl 1 0 3 2 none)), .rich [.osl 2 0 1 n none, nilB, int64 1, .osl 3 0 1 n none, nilB, int64 2], .fix (rowI (List.replicate (n) (-1001))) m2 false, .flat (rowI (List.replicate (n) (-1002))) m3, .rich [.osl 2 0 1 n none, nilB, int64 1], o]⟩)
    (fun e s' => e = .exit 2 ∧ s' = ⟨4, [(0, .optr 0 0), (2, int64 0), (3, .optr 4 0), (4, .osl 5 0 1 (n + 40) none), (5, int64 40), (25, avb false)], [.rich (bookI 2 (.osl 1 0 3 2 none)), .rich [.osl 2 0 1 n none, nilB, int64 1, .osl 3 0 1 n none, nilB, int64 2], .fix (rowI (List.replicate (n) (-1001))) m2 false, .flat (rowI (List.replicate (n) (-1002))) m3, .rich [.osl 2 0 1 n none, nilB, int64 1], .fix (rowI (List.replicate (n + 40) (-1001))) false true]⟩) (fun c s => by
    rintro ⟨j, o, hj1, hj, hc0, ho, hst⟩
    rw [hst]
    by_cases hlt : j < 40
    · have hm := markI_spec (ext := ext) h 1 (by omega) (by omega)
      have e1 : IntKind.wrap .i64 ((j : Int) + 1) = (j : Int) + 1 := wrapI64 (by omega) (by omega)
      have hsn := repI_snoc (n + j) (-1001)
      have hrl := repI_len (n + j) (-1001)
      have hbd : (n + (j + 1)) * 8 ≤ 140737488355328 := by omega
      have hlt' : (j : Int) < 40 := by omega
      have e3 : n + j + 1 = n + (j + 1) := by omega
      rw [e3] at hsn
      refine ⟨.normal, ⟨4, [(0, .optr 0 0), (2, int64 0), (3, .optr 4 0), (4, .osl 7 0 1 (n + (j + 1)) none), (5, int64 ((j : Int) + 1))], [.rich (bookI 2 (.osl 1 0 3 2 none)), .rich [.osl 2 0 1 n none, nilB, int64 1, .osl 3 0 1 n none, nilB, int64 2], .fix (rowI (List.replicate (n) (-1001))) m2 false, .flat (rowI (List.replicate (n) (-1002))) m3, .rich [.osl 2 0 1 n none, nilB, int64 1], .fix (rowI (List.replicate (n + j) (-1001))) false false, .flat [.val (.int .i64 (-1001))] false, .fix (rowI (List.replicate (n + (j + 1)) (-1001))) false true]⟩, ?_, .inl ⟨rfl, c - 1, by omega, j + 1, .fix (rowI (List.replicate (n + (j + 1)) (-1001))) false true, by omega, by omega, fun _ => rfl, .inr rfl, ?_⟩⟩
      · generalize rowI (List.replicate (n + (j + 1)) (-1001)) = R2 at *
        rcases ho with rfl | rfl
        · generalize rowI (List.replicate (n + j) (-1001)) = R1 at *
          generalize rowI (List.replicate (n) (-1001)) = G0
          generalize rowI (List.replicate (n) (-1002)) = G1
          simp -implicitDefEqProofs [x45L1, hlt', hlt, hm, hsn, hrl, hbd, e1, e3, bookI, nilB, exAppendX, exAppend, exAppendK, elems]
        · generalize rowI (List.replicate (n + j) (-1001)) = R1 at *
          generalize rowI (List.replicate (n) (-1001)) = G0
          generalize rowI (List.replicate (n) (-1002)) = G1
          simp -implicitDefEqProofs [x45L1, hlt', hlt, hm, hsn, hrl, hbd, e1, e3, bookI, nilB, exAppendX, exAppend, exAppendK, elems]
      · generalize rowI (List.replicate (n + (j + 1)) (-1001)) = R2
        generalize rowI (List.replicate (n + j) (-1001)) = R1
        generalize rowI (List.replicate (n) (-1001)) = G0
        generalize rowI (List.replicate (n) (-1002)) = G1
        simp -implicitDefEqProofs [bookI, nilB]
    · have : j = 40 := by omega
      subst this
      have : c = 0 := by omega
      subst this
      obtain rfl := hc0 rfl
      refine ⟨.exit 2, _, ?_, .inr ⟨by simp, rfl, rfl⟩⟩
      generalize rowI (List.replicate (n + 40) (-1001)) = R2
      generalize rowI (List.replicate (n) (-1001)) = G0
      generalize rowI (List.replicate (n) (-1002)) = G1
      simp -implicitDefEqProofs [x45L1]) (40 - j0) s ⟨j0, o, by omega, by omega, fun h => absurd h (by omega), ho, hst⟩
  exact h2
theorem growP0_s0 (h : code 411 = some x411) (n : Nat) (m2 m3 : Bool) (hn : n ≤ 20000) :
    den code ext x45L1 ⟨4, [(0, .optr 0 0), (2, int64 0), (3, .optr 4 0), (4, .osl 2 0 1 n none), (5, int64 0)], [.rich (bookI 2 (.osl 1 0 3 2 none)), .rich [.osl 2 0 1 n none, nilB, int64 1, .osl 3 0 1 n none, nilB, int64 2], .flat (rowI (List.replicate (n) (-1001))) m2, .flat (rowI (List.replicate (n) (-1002))) m3, .rich [.osl 2 0 1 n none, nilB, int64 1]]⟩ = some (.normal, ⟨4, [(0, .optr 0 0), (2, int64 0), (3, .optr 4 0), (4, .osl 6 0 1 (n + 1) none), (5, int64 1)], [.rich (bookI 2 (.osl 1 0 3 2 none)), .rich [.osl 2 0 1 n none, nilB, int64 1, .osl 3 0 1 n none, nilB, int64 2], .fix (rowI (List.replicate (n) (-1001))) m2 false, .flat (rowI (List.replicate (n) (-1002))) m3, .rich [.osl 2 0 1 n none, nilB, int64 1], .flat [.val (.int .i64 (-1001))] false, .fix (rowI (List.replicate (n + 1) (-1001))) false true]⟩) := by
  have hm := markI_spec (ext := ext) h 1 (by omega) (by omega)
  have e1 : IntKind.wrap .i64 1 = 1 := by decide
  have hsn := repI_snoc n (-1001)
  have hrl := repI_len n (-1001)
  have hbd : (n + 1) * 8 ≤ 140737488355328 := by omega
  generalize rowI (List.replicate (n + 1) (-1001)) = R2 at *
  generalize rowI (List.replicate (n) (-1001)) = R1 at *
  generalize rowI (List.replicate (n) (-1002)) = R3 at *
  simp -implicitDefEqProofs [x45L1, hm, hsn, hrl, hbd, e1, bookI, nilB, exAppendX, exAppend, exAppendK, elems]
theorem growP0_inner (h : code 411 = some x411) (n : Nat) (m2 m3 : Bool) (hn : n ≤ 20000) {s : St} (hst : s.tidy [0, 2, 3, 4, 5] = ⟨4, [(0, .optr 0 0), (2, int64 0), (3, .optr 4 0), (4, .osl 2 0 1 n none), (5, int64 0)], [.rich (bookI 2 (.osl 1 0 3 2 none)), .rich [.osl 2 0 1 n none, nilB, int64 1, .osl 3 0 1 n none, nilB, int64 2], .flat (rowI (List.replicate (n) (-1001))) m2, .flat (rowI (List.replicate (n) (-1002))) m3, .rich [.osl 2 0 1 n none, nilB, int64 1]]⟩) :
    den code ext (.loop [0, 2, 3, 4, 5] x45L1) s = some (.exit 2, ⟨4, [(0, .optr 0 0), (2, int64 0), (3, .optr 4 0), (4, .osl 5 0 1 (n + 40) none), (5, int64 40), (25, avb false)], [.rich (bookI 2 (.osl 1 0 3 2 none)), .rich [.osl 2 0 1 n none, nilB, int64 1, .osl 3 0 1 n none, nilB, int64 2], .fix (rowI (List.replicate (n) (-1001))) m2 false, .flat (rowI (List.replicate (n) (-1002))) m3, .rich [.osl 2 0 1 n none, nilB, int64 1], .fix (rowI (List.replicate (n + 40) (-1001))) false true]⟩) := by
  rw [den_loop, hst, growP0_s0 h n m2 m3 hn]
  simp only [andThen]
  exact growP0_long h n m2 m3 1 (by omega) hn (.inr rfl) (by
    generalize rowI (List.replicate (n + 1) (-1001)) = H0
    generalize rowI (List.replicate (n) (-1001)) = H1
    generalize rowI (List.replicate (n) (-1002)) = H2
    simp -implicitDefEqProofs [bookI, nilB])
theorem growP0_item (h : code 411 = some x411) (n : Nat) (m2 m3 : Bool) (hn : n ≤ 20000) :
    ∃ s', den code ext x45L2 ⟨4, [(0, .optr 0 0), (2, int64 0)], [.rich (bookI 2 (.osl 1 0 3 2 none)), .rich [.osl 2 0 1 n none, nilB, int64 1, .osl 3 0 1 n none, nilB, int64 2], .flat (rowI (List.replicate (n) (-1001))) m2, .flat (rowI (List.replicate (n) (-1002))) m3]⟩ = some (.normal, s') ∧ s'.tidy [0, 2] = ⟨4, [(0, .optr 0 0), (2, int64 1)], [.rich (bookI 2 (.osl 1 0 3 2 none)), .rich [.osl 2 0 1 n none, .osl 4 0 1 (n + 40) none, int64 1, .osl 3 0 1 n none, nilB, int64 2], .fix (rowI (List.replicate (n) (-1001))) m2 false, .flat (rowI (List.replicate (n) (-1002))) m3, .fix (rowI (List.replicate (n + 40) (-1001))) false true]⟩ := by
  have e1 : IntKind.wrap .i64 1 = 1 := by decide
  have hl := growP0_inner (ext := ext) h n m2 m3 hn (s := ⟨4, [(0, .optr 0 0), (2, int64 0), (3, .optr 4 0), (4, .osl 2 0 1 n none), (5, int64 0)], [.rich (bookI 2 (.osl 1 0 3 2 none)), .rich [.osl 2 0 1 n none, nilB, int64 1, .osl 3 0 1 n none, nilB, int64 2], .flat (rowI (List.replicate (n) (-1001))) m2, .flat (rowI (List.replicate (n) (-1002))) m3, .rich [.osl 2 0 1 n none, nilB, int64 1]]⟩) (by
    generalize rowI (List.replicate (n) (-1001)) = H0
    generalize rowI (List.replicate (n) (-1002)) = H1
    simp -implicitDefEqProofs [bookI, nilB])
  refine ⟨⟨4, [(0, .optr 0 0), (2, int64 1)], [.rich (bookI 2 (.osl 1 0 3 2 none)), .rich [.osl 2 0 1 n none, .osl 5 0 1 (n + 40) none, int64 1, .osl 3 0 1 n none, nilB, int64 2], .fix (rowI (List.replicate (n) (-1001))) m2 false, .flat (rowI (List.replicate (n) (-1002))) m3, .rich [.osl 2 0 1 n none, nilB, int64 1], .fix (rowI (List.replicate (n + 40) (-1001))) false true]⟩, ?_, ?_⟩
  · simp only [bookI, nilB] at hl
    generalize rowI (List.replicate (n) (-1001)) = H0 at *
    generalize rowI (List.replicate (n) (-1002)) = H1 at *
    generalize rowI (List.replicate (n + 40) (-1001)) = H2 at *
    simp -implicitDefEqProofs [x45L2, e1, hl, bookI, nilB]
  · clear hl
    generalize rowI (List.replicate (n) (-1001)) = H0
    generalize rowI (List.replicate (n) (-1002)) = H1
    generalize rowI (List.replicate (n + 40) (-1001)) = H2
    simp -implicitDefEqProofs [bookI, nilB]
theorem growP1_long (h : code 411 = some x411) (n : Nat) (m2 m3 : Bool) (j0 : Nat) (hj0 : 0 < j0 ∧ j0 < 40) (hn : n ≤ 20000) {o : AObj} (ho : o = .flat (rowI (List.replicate (n + j0) (-1002))) false ∨ o = .fix (rowI (List.replicate (n + j0) (-1002))) false true) {s : St}
    (hst : s.tidy [0, 2, 3, 4, 5] = ⟨4, [(0, .optr 0 0), (2, int64 1), (3, .optr 4 0), (4, .osl 5 0 1 (n + j0) none), (5, int64 (j0 : Nat))], [.rich (bookI 2 (.osl 1 0 3 2 none)), .rich [.osl 2 0 1 n none, .osl 6 0 1 (n + 40) none, int64 1, .osl 3 0 1 n none, nilB, int64 2], .fix (rowI (List.replicate (n) (-1001))) m2 false, .fix (rowI (List.replicate (n) (-1002))) m3 false, .rich [.osl 3 0 1 n none, nilB, int64 2], o, .fix (rowI (List.replicate (n + 40) (-1001))) false true]⟩) :
    den code ext (.loop [0, 2, 3, 4, 5] x45L1) s = some (.exit 2, ⟨4, [(0, .optr 0 0), (2, int64 1), (3, .optr 4 0), (4, .osl 5 0 1 (n + 40) none), (5, int64 40), (25, avb false)], [.rich (bookI 2 (.osl 1 0 3 2 none)), .rich [.osl 2 0 1 n none, .osl 6 0 1 (n + 40) none, int64 1, .osl 3 0 1 n none, nilB, int64 2], .fix (rowI (List.replicate (n) (-1001))) m2 false, .fix (rowI (List.replicate (n) (-1002))) m3 false, .rich [.osl 3 0 1 n none, nilB, int64 2], .fix (rowI (List.replicate (n + 40) (-1002))) false true, .fix (rowI (List.replicate (n + 40) (-1001))) false true]⟩) := by
  obtain ⟨e, s', h2, _, rfl, rfl⟩ := loop_rule (code := code) (ext := ext) (keep := [0, 2, 3, 4, 5]) (b := x45L1) (fun c s => ∃ j o, 0 < j ∧ j + c = 40 ∧ (c = 0 → o = .fix (rowI (List.replicate (n + j) (-1002))) false true) ∧ (o = .flat (rowI (List.replicate (n + j) (-1002))) false ∨ o = .fix (rowI (List.replicate (n + j) (-1002))) false true) ∧ s.tidy [0, 2, 3, 4, 5] = ⟨4, [(0, .optr 0 0), (2, int64 1), (3, .optr 4 0), (4, .osl 5 0 1 (n + j) none), (5, int64 (j : Nat))], [.rich (bookI 2 (.osl 1 0 3 2 none)), .rich [.osl 2 0 1 n none, .osl 6 0 1 (n + 40) none, int64 1, .osl 3 0 1 n none, nilB, int64 2], .fix (rowI (List.replicate (n) (-1001))) m2 false, .fix (rowI (List.replicate (n) (-1002))) m3 false, .rich [.osl 3 0 1 n none, nilB, int64 2], o, .fix (rowI (List.replicate (n + 40) (-1001))) false true]⟩)
    (fun e s' => e = .exit 2 ∧ s' = ⟨4, [(0, .optr 0 0), (2, int64 1), (3, .optr 4 0), (4, .osl 5 0 1 (n + 40) none), (5, int64 40), (25, avb false)], [.rich (bookI 2 (.osl 1 0 3 2 none)), .rich [.osl 2 0 1 n none, .osl 6 0 1 (n + 40) none, int64 1, .osl 3 0 1 n none, nilB, int64 2], .fix (rowI (List.replicate (n) (-1001))) m2 false, .fix (rowI (List.replicate (n) (-1002))) m3 false, .rich [.osl 3 0 1 n none, nilB, int64 2], .fix (rowI (List.replicate (n + 40) (-1002))) false true, .fix (rowI (List.replicate (n + 40) (-1001))) false true]⟩) (fun c s => by
    rintro ⟨j, o, hj1, hj, hc0, ho, hst⟩
    rw [hst]
    by_cases hlt : j < 40
    · have hm := markI_spec (ext := ext) h 2 (by omega) (by omega)
      have e1 : IntKind.wrap .i64 ((j : Int) + 1) = (j : Int) + 1 := wrapI64 (by omega) (by omega)
      have hsn := repI_snoc (n + j) (-1002)
      have hrl := repI_len (n + j) (-1002)
      have hbd : (n + (j + 1)) * 8 ≤ 140737488355328 := by omega
      have hlt' : (j : Int) < 40 := by omega
      have e3 : n + j + 1 = n + (j + 1) := by omega
      rw [e3] at hsn
      refine ⟨.normal, ⟨4, [(0, .optr 0 0), (2, int64 1), (3, .optr 4 0), (4, .osl 8 0 1 (n + (j + 1)) none), (5, int64 ((j : Int) + 1))], [.rich (bookI 2 (.osl 1 0 3 2 none)), .rich [.osl 2 0 1 n none, .osl 6 0 1 (n + 40) none, int64 1, .osl 3 0 1 n none, nilB, int64 2], .fix (rowI (List.replicate (n) (-1001))) m2 false, .fix (rowI (List.replicate (n) (-1002))) m3 false, .rich [.osl 3 0 1 n none, nilB, int64 2], .fix (rowI (List.replicate (n + j) (-1002))) false false, .fix (rowI (List.replicate (n + 40) (-1001))) false true, .flat [.val (.int .i64 (-1002))] false, .fix (rowI (List.replicate (n + (j + 1)) (-1002))) false true]⟩, ?_, .inl ⟨rfl, c - 1, by omega, j + 1, .fix (rowI (List.replicate (n + (j + 1)) (-1002))) false true, by omega, by omega, fun _ => rfl, .inr rfl, ?_⟩⟩
      · generalize rowI (List.replicate (n + (j + 1)) (-1002)) = R2 at *
        rcases ho with rfl | rfl
        · generalize rowI (List.replicate (n + j) (-1002)) = R1 at *
          generalize rowI (List.replicate (n) (-1001)) = G0
          generalize rowI (List.replicate (n) (-1002)) = G1
          generalize rowI (List.replicate (n + 40) (-1001)) = G2
          simp -implicitDefEqProofs [x45L1, hlt', hlt, hm, hsn, hrl, hbd, e1, e3, bookI, nilB, exAppendX, exAppend, exAppendK, elems]
        · generalize rowI (List.replicate (n + j) (-1002)) = R1 at *
          generalize rowI (List.replicate (n) (-1001)) = G0
          generalize rowI (List.replicate (n) (-1002)) = G1
          generalize rowI (List.replicate (n + 40) (-1001)) = G2
          simp -implicitDefEqProofs [x45L1, hlt', hlt, hm, hsn, hrl, hbd, e1, e3, bookI, nilB, exAppendX, exAppend, exAppendK, elems]
      · generalize rowI (List.replicate (n + (j + 1)) (-1002)) = R2
        generalize rowI (List.replicate (n + j) (-1002)) = R1
        generalize rowI (List.replicate (n) (-1001)) = G0
        generalize rowI (List.replicate (n) (-1002)) = G1
        generalize rowI (List.replicate (n + 40) (-1001)) = G2
        simp -implicitDefEqProofs [bookI, nilB]
    · have : j = 40 := by omega
      subst this
      have : c = 0 := by omega
      subst this
      obtain rfl := hc0 rfl
      refine ⟨.exit 2, _, ?_, .inr ⟨by simp, rfl, rfl⟩⟩
      generalize rowI (List.replicate (n + 40) (-1002)) = R2
      generalize rowI (List.replicate (n) (-1001)) = G0
      generalize rowI (List.replicate (n) (-1002)) = G1
      generalize rowI (List.replicate (n + 40) (-1001)) = G2
      simp -implicitDefEqProofs [x45L1]) (40 - j0) s ⟨j0, o, by omega, by omega, fun h => absurd h (by omega), ho, hst⟩
  exact h2
theorem growP1_s0 (h : code 411 = some x411) (n : Nat) (m2 m3 : Bool) (hn : n ≤ 20000) :
    den code ext x45L1 ⟨4, [(0, .optr 0 0), (2, int64 1), (3, .optr 4 0), (4, .osl 3 0 1 n none), (5, int64 0)], [.rich (bookI 2 (.osl 1 0 3 2 none)), .rich [.osl 2 0 1 n none, .osl 5 0 1 (n + 40) none, int64 1, .osl 3 0 1 n none, nilB, int64 2], .fix (rowI (List.replicate (n) (-1001))) m2 false, .flat (rowI (List.replicate (n) (-1002))) m3, .rich [.osl 3 0 1 n none, nilB, int64 2], .fix (rowI (List.replicate (n + 40) (-1001))) false true]⟩ = some (.normal, ⟨4, [(0, .optr 0 0), (2, int64 1), (3, .optr 4 0), (4, .osl 7 0 1 (n + 1) none), (5, int64 1)], [.rich (bookI 2 (.osl 1 0 3 2 none)), .rich [.osl 2 0 1 n none, .osl 5 0 1 (n + 40) none, int64 1, .osl 3 0 1 n none, nilB, int64 2], .fix (rowI (List.replicate (n) (-1001))) m2 false, .fix (rowI (List.replicate (n) (-1002))) m3 false, .rich [.osl 3 0 1 n none, nilB, int64 2], .fix (rowI (List.replicate (n + 40) (-1001))) false true, .flat [.val (.int .i64 (-1002))] false, .fix (rowI (List.replicate (n + 1) (-1002))) false true]⟩) := by
  have hm := markI_spec (ext := ext) h 2 (by omega) (by omega)
  have e1 : IntKind.wrap .i64 1 = 1 := by decide
  have hsn := repI_snoc n (-1002)
  have hrl := repI_len n (-1002)
  have hbd : (n + 1) * 8 ≤ 140737488355328 := by omega
  generalize rowI (List.replicate (n + 1) (-1002)) = R2 at *
  generalize rowI (List.replicate (n) (-1002)) = R1 at *
  generalize rowI (List.replicate (n) (-1001)) = R3 at *
  simp -implicitDefEqProofs [x45L1, hm, hsn, hrl, hbd, e1, bookI, nilB, exAppendX, exAppend, exAppendK, elems]
theorem growP1_inner (h : code 411 = some x411) (n : Nat) (m2 m3 : Bool) (hn : n ≤ 20000) {s : St} (hst : s.tidy [0, 2, 3, 4, 5] = ⟨4, [(0, .optr 0 0), (2, int64 1), (3, .optr 4 0), (4, .osl 3 0 1 n none), (5, int64 0)], [.rich (bookI 2 (.osl 1 0 3 2 none)), .rich [.osl 2 0 1 n none, .osl 5 0 1 (n + 40) none, int64 1, .osl 3 0 1 n none, nilB, int64 2], .fix (rowI (List.replicate (n) (-1001))) m2 false, .flat (rowI (List.replicate (n) (-1002))) m3, .rich [.osl 3 0 1 n none, nilB, int64 2], .fix (rowI (List.replicate (n + 40) (-1001))) false true]⟩) :
    den code ext (.loop [0, 2, 3, 4, 5] x45L1) s = some (.exit 2, ⟨4, [(0, .optr 0 0), (2, int64 1), (3, .optr 4 0), (4, .osl 5 0 1 (n + 40) none), (5, int64 40), (25, avb false)], [.rich (bookI 2 (.osl 1 0 3 2 none)), .rich [.osl 2 0 1 n none, .osl 6 0 1 (n + 40) none, int64 1, .osl 3 0 1 n none, nilB, int64 2], .fix (rowI (List.replicate (n) (-1001))) m2 false, .fix (rowI (List.replicate (n) (-1002))) m3 false, .rich [.osl 3 0 1 n none, nilB, int64 2], .fix (rowI (List.replicate (n + 40) (-1002))) false true, .fix (rowI (List.replicate (n + 40) (-1001))) false true]⟩) := by
  rw [den_loop, hst, growP1_s0 h n m2 m3 hn]
  simp only [andThen]
  exact growP1_long h n m2 m3 1 (by omega) hn (.inr rfl) (by
    generalize rowI (List.replicate (n + 1) (-1002)) = H0
    generalize rowI (List.replicate (n) (-1001)) = H1
    generalize rowI (List.replicate (n) (-1002)) = H2
    generalize rowI (List.replicate (n + 40) (-1001)) = H3
    simp -implicitDefEqProofs [bookI, nilB])
theorem growP1_item (h : code 411 = some x411) (n : Nat) (m2 m3 : Bool) (hn : n ≤ 20000) :
    ∃ s', den code ext x45L2 ⟨4, [(0, .optr 0 0), (2, int64 1)], [.rich (bookI 2 (.osl 1 0 3 2 none)), .rich [.osl 2 0 1 n none, .osl 4 0 1 (n + 40) none, int64 1, .osl 3 0 1 n none, nilB, int64 2], .fix (rowI (List.replicate (n) (-1001))) m2 false, .flat (rowI (List.replicate (n) (-1002))) m3, .fix (rowI (List.replicate (n + 40) (-1001))) false true]⟩ = some (.normal, s') ∧ s'.tidy [0, 2] = ⟨4, [(0, .optr 0 0), (2, int64 2)], [.rich (bookI 2 (.osl 1 0 3 2 none)), .rich [.osl 2 0 1 n none, .osl 4 0 1 (n + 40) none, int64 1, .osl 3 0 1 n none, .osl 5 0 1 (n + 40) none, int64 2], .fix (rowI (List.replicate (n) (-1001))) m2 false, .fix (rowI (List.replicate (n) (-1002))) m3 false, .fix (rowI (List.replicate (n + 40) (-1001))) false true, .fix (rowI (List.replicate (n + 40) (-1002))) false true]⟩ := by
  have e1 : IntKind.wrap .i64 2 = 2 := by decide
  have hl := growP1_inner (ext := ext) h n m2 m3 hn (s := ⟨4, [(0, .optr 0 0), (2, int64 1), (3, .optr 5 0), (4, .osl 3 0 1 n none), (5, int64 0)], [.rich (bookI 2 (.osl 1 0 3 2 none)), .rich [.osl 2 0 1 n none, .osl 4 0 1 (n + 40) none, int64 1, .osl 3 0 1 n none, nilB, int64 2], .fix (rowI (List.replicate (n) (-1001))) m2 false, .flat (rowI (List.replicate (n) (-1002))) m3, .fix (rowI (List.replicate (n + 40) (-1001))) false true, .rich [.osl 3 0 1 n none, nilB, int64 2]]⟩) (by
    generalize rowI (List.replicate (n) (-1001)) = H0
    generalize rowI (List.replicate (n) (-1002)) = H1
    generalize rowI (List.replicate (n + 40) (-1001)) = H2
    generalize rowI (List.replicate (n + 40) (-1002)) = H3
    simp -implicitDefEqProofs [bookI, nilB])
  refine ⟨⟨4, [(0, .optr 0 0), (2, int64 2)], [.rich (bookI 2 (.osl 1 0 3 2 none)), .rich [.osl 2 0 1 n none, .osl 6 0 1 (n + 40) none, int64 1, .osl 3 0 1 n none, .osl 5 0 1 (n + 40) none, int64 2], .fix (rowI (List.replicate (n) (-1001))) m2 false, .fix (rowI (List.replicate (n) (-1002))) m3 false, .rich [.osl 3 0 1 n none, nilB, int64 2], .fix (rowI (List.replicate (n + 40) (-1002))) false true, .fix (rowI (List.replicate (n + 40) (-1001))) false true]⟩, ?_, ?_⟩
  · simp only [bookI, nilB] at hl
    generalize rowI (List.replicate (n) (-1001)) = H0 at *
    generalize rowI (List.replicate (n) (-1002)) = H1 at *
    generalize rowI (List.replicate (n + 40) (-1001)) = H2 at *
    generalize rowI (List.replicate (n + 40) (-1002)) = H3 at *
    simp -implicitDefEqProofs [x45L2, e1, hl, bookI, nilB]
  · clear hl
    generalize rowI (List.replicate (n) (-1001)) = H0
    generalize rowI (List.replicate (n) (-1002)) = H1
    generalize rowI (List.replicate (n + 40) (-1001)) = H2
    generalize rowI (List.replicate (n + 40) (-1002)) = H3
    simp -implicitDefEqProofs [bookI, nilB]
theorem growP_spec (h : code 411 = some x411) (h45 : code 45 = some x45) (n : Nat) (m2 m3 : Bool) (hn : n ≤ 20000) :
    callW code ext 45 [.optr 0 0] [.rich (bookI 2 (.osl 1 0 3 2 none)), .rich [.osl 2 0 1 n none, nilB, int64 1, .osl 3 0 1 n none, nilB, int64 2], .flat (rowI (List.replicate (n) (-1001))) m2, .flat (rowI (List.replicate (n) (-1002))) m3] = some (.tup [], [.rich (bookI 2 (.osl 1 0 3 2 none)), .rich [.osl 2 0 1 n none, .osl 4 0 1 (n + 40) none, int64 1, .osl 3 0 1 n none, .osl 5 0 1 (n + 40) none, int64 2], .fix (rowI (List.replicate (n) (-1001))) m2 false, .fix (rowI (List.replicate (n) (-1002))) m3 false, .fix (rowI (List.replicate (n + 40) (-1001))) false true, .fix (rowI (List.replicate (n + 40) (-1002))) false true]) := by
  obtain ⟨s1, a1, b1⟩ := growP0_item (ext := ext) h n m2 m3 hn
  obtain ⟨s2, a2, b2⟩ := growP1_item (ext := ext) h n m2 m3 hn
  rw [callW_fun code ext h45]
  have i3 : ∀ M : Mem, M = [.rich (bookI 2 (.osl 1 0 3 2 none)), .rich [.osl 2 0 1 n none, .osl 4 0 1 (n + 40) none, int64 1, .osl 3 0 1 n none, .osl 5 0 1 (n + 40) none, int64 2], .fix (rowI (List.replicate (n) (-1001))) m2 false, .fix (rowI (List.replicate (n) (-1002))) m3 false, .fix (rowI (List.replicate (n + 40) (-1001))) false true, .fix (rowI (List.replicate (n + 40) (-1002))) false true] → ∃ e, den code ext x45L2 ⟨4, [(0, .optr 0 0), (2, int64 2)], M⟩ = some (.exit 0, ⟨4, e, M⟩) := by
    rintro M rfl
    exact ⟨[(0, .optr 0 0), (2, int64 2), (12, avb false)], by
      generalize rowI (List.replicate (n) (-1001)) = H0
      generalize rowI (List.replicate (n) (-1002)) = H1
      generalize rowI (List.replicate (n + 40) (-1001)) = H2
      generalize rowI (List.replicate (n + 40) (-1002)) = H3
      simp -implicitDefEqProofs [x45L2, bookI, nilB]⟩
  obtain ⟨e, i3⟩ := i3 _ rfl
  have hT : (⟨4, [(0, .optr 0 0), (2, int64 0)], [.rich (bookI 2 (.osl 1 0 3 2 none)), .rich [.osl 2 0 1 n none, nilB, int64 1, .osl 3 0 1 n none, nilB, int64 2], .flat (rowI (List.replicate (n) (-1001))) m2, .flat (rowI (List.replicate (n) (-1002))) m3]⟩ : St).tidy [0, 2] = ⟨4, [(0, .optr 0 0), (2, int64 0)], [.rich (bookI 2 (.osl 1 0 3 2 none)), .rich [.osl 2 0 1 n none, nilB, int64 1, .osl 3 0 1 n none, nilB, int64 2], .flat (rowI (List.replicate (n) (-1001))) m2, .flat (rowI (List.replicate (n) (-1002))) m3]⟩ := by
    generalize rowI (List.replicate (n) (-1001)) = H0
    generalize rowI (List.replicate (n) (-1002)) = H1
    simp -implicitDefEqProofs [bookI, nilB]
  have hL : den code ext (.loop [0, 2] x45L2) ⟨4, [(0, .optr 0 0), (2, int64 0)], [.rich (bookI 2 (.osl 1 0 3 2 none)), .rich [.osl 2 0 1 n none, nilB, int64 1, .osl 3 0 1 n none, nilB, int64 2], .flat (rowI (List.replicate (n) (-1001))) m2, .flat (rowI (List.replicate (n) (-1002))) m3]⟩ = some (.exit 0, ⟨4, e, [.rich (bookI 2 (.osl 1 0 3 2 none)), .rich [.osl 2 0 1 n none, .osl 4 0 1 (n + 40) none, int64 1, .osl 3 0 1 n none, .osl 5 0 1 (n + 40) none, int64 2], .fix (rowI (List.replicate (n) (-1001))) m2 false, .fix (rowI (List.replicate (n) (-1002))) m3 false, .fix (rowI (List.replicate (n + 40) (-1001))) false true, .fix (rowI (List.replicate (n + 40) (-1002))) false true]⟩) := by
    rw [den_loop, hT, a1]
    simp only [andThen]
    rw [den_loop, b1, a2]
    simp only [andThen]
    rw [den_loop, b2, i3]
    rfl
  clear hT a1 b1 a2 b2 i3
  simp only [bookI, nilB] at hL
  generalize rowI (List.replicate (n) (-1001)) = H0 at *
  generalize rowI (List.replicate (n) (-1002)) = H1 at *
  generalize rowI (List.replicate (n + 40) (-1001)) = H2 at *
  generalize rowI (List.replicate (n + 40) (-1002)) = H3 at *
  simp -implicitDefEqProofs [x45, hL, bookI, nilB]
theorem growZ0_long (h : code 411 = some x411)  (j0 : Nat) (hj0 : 0 < j0 ∧ j0 < 40)  {o : AObj} (ho : o = .flat (rowI (List.replicate (j0) (-1001))) false ∨ o = .fix (rowI (List.replicate (j0) (-1001))) false true) {s : St}
    (hst : s.tidy [0, 2, 3, 4, 5] = ⟨2, [(0, .optr 0 0), (2, int64 0), (3, .optr 2 0), (4, .osl 3 0 1 (j0) none), (5, int64 (j0 : Nat))], [.rich (bookI 2 (.osl 1 0 3 2 none)), .rich [nilB, nilB, int64 1, nilB, nilB, int64 2], .rich [nilB, nilB, int64 1], o]⟩) :
    den code ext (.loop [0, 2, 3, 4, 5] x45L1) s = some (.exit 2, ⟨2, [(0, .optr 0 0), (2, int64 0), (3, .optr 2 0), (4, .osl 3 0 1 (40) none), (5, int64 40), (25, avb false)], [.rich (bookI 2 (.osl 1 0 3 2 none)), .rich [nilB, nilB, int64 1, nilB, nilB, int64 2], .rich [nilB, nilB, int64 1], .fix (rowI (List.replicate (40) (-1001))) false true]⟩) := by
  obtain ⟨e, s', h2, _, rfl, rfl⟩ := loop_rule (code := code) (ext := ext) (keep := [0, 2, 3, 4, 5]) (b := x45L1) (fun c s => ∃ j o, 0 < j ∧ j + c = 40 ∧ (c = 0 → o = .fix (rowI (List.replicate (j) (-1001))) false true) ∧ (o = .flat (rowI (List.replicate (j) (-1001))) false ∨ o = .fix (rowI (List.replicate (j) (-1001))) false true) ∧ s.tidy [0, 2, 3, 4, 5] = ⟨2, [(0, .optr 0 0), (2, int64 0), (3, .optr 2 0), (4, .osl 3 0 1 (j) none), (5, int64 (j : Nat))], [.rich (bookI 2 (.osl 1 0 3 2 none)), .rich [nilB, nilB, int64 1, nilB, nilB, int64 2], .rich [nilB, nilB, int64 1], o]⟩)
    (fun e s' => e = .exit 2 ∧ s' = ⟨2, [(0, .optr 0 0), (2, int64 0), (3, .optr 2 0), (4, .osl 3 0 1 (40) none), (5, int64 40), (25, avb false)], [.rich (bookI 2 (.osl 1 0 3 2 none)), .rich [nilB, nilB, int64 1, nilB, nilB, int64 2], .rich [nilB, nilB, int64 1], .fix (rowI (List.replicate (40) (-1001))) false true]⟩) (fun c s => by
    rintro ⟨j, o, hj1, hj, hc0, ho, hst⟩
    rw [hst]
    by_cases hlt : j < 40
    · have hm := markI_spec (ext := ext) h 1 (by omega) (by omega)
      have e1 : IntKind.wrap .i64 ((j : Int) + 1) = (j : Int) + 1 := wrapI64 (by omega) (by omega)
      have hsn := repI_snoc (j) (-1001)
      have hrl := repI_len (j) (-1001)
      have hbd : ((j + 1)) * 8 ≤ 140737488355328 := by omega
      have hlt' : (j : Int) < 40 := by omega
      have e3 : j + 1 = (j + 1) := by omega
      rw [e3] at hsn
      refine ⟨.normal, ⟨2, [(0, .optr 0 0), (2, int64 0), (3, .optr 2 0), (4, .osl 5 0 1 ((j + 1)) none), (5, int64 ((j : Int) + 1))], [.rich (bookI 2 (.osl 1 0 3 2 none)), .rich [nilB, nilB, int64 1, nilB, nilB, int64 2], .rich [nilB, nilB, int64 1], .fix (rowI (List.replicate (j) (-1001))) false false, .flat [.val (.int .i64 (-1001))] false, .fix (rowI (List.replicate ((j + 1)) (-1001))) false true]⟩, ?_, .inl ⟨rfl, c - 1, by omega, j + 1, .fix (rowI (List.replicate ((j + 1)) (-1001))) false true, by omega, by omega, fun _ => rfl, .inr rfl, ?_⟩⟩
      · generalize rowI (List.replicate ((j + 1)) (-1001)) = R2 at *
        rcases ho with rfl | rfl
        · generalize rowI (List.replicate (j) (-1001)) = R1 at *
          simp -implicitDefEqProofs [x45L1, hlt', hlt, hm, hsn, hrl, hbd, e1, e3, bookI, nilB, exAppendX, exAppend, exAppendK, elems]
        · generalize rowI (List.replicate (j) (-1001)) = R1 at *
          simp -implicitDefEqProofs [x45L1, hlt', hlt, hm, hsn, hrl, hbd, e1, e3, bookI, nilB, exAppendX, exAppend, exAppendK, elems]
      · generalize rowI (List.replicate ((j + 1)) (-1001)) = R2
        generalize rowI (List.replicate (j) (-1001)) = R1
        simp -implicitDefEqProofs [bookI, nilB]
    · have : j = 40 := by omega
      subst this
      have : c = 0 := by omega
      subst this
      obtain rfl := hc0 rfl
      refine ⟨.exit 2, _, ?_, .inr ⟨by simp, rfl, rfl⟩⟩
      generalize rowI (List.replicate (40) (-1001)) = R2
      simp -implicitDefEqProofs [x45L1]) (40 - j0) s ⟨j0, o, by omega, by omega, fun h => absurd h (by omega), ho, hst⟩
  exact h2
theorem growZ0_s0 (h : code 411 = some x411)   :
    den code ext x45L1 ⟨2, [(0, .optr 0 0), (2, int64 0), (3, .optr 2 0), (4, nilB), (5, int64 0)], [.rich (bookI 2 (.osl 1 0 3 2 none)), .rich [nilB, nilB, int64 1, nilB, nilB, int64 2], .rich [nilB, nilB, int64 1]]⟩ = some (.normal, ⟨2, [(0, .optr 0 0), (2, int64 0), (3, .optr 2 0), (4, .osl 4 0 1 1 none), (5, int64 1)], [.rich (bookI 2 (.osl 1 0 3 2 none)), .rich [nilB, nilB, int64 1, nilB, nilB, int64 2], .rich [nilB, nilB, int64 1], .flat [.val (.int .i64 (-1001))] false, .flat [.val (.int .i64 (-1001))] false]⟩) := by
  have hm := markI_spec (ext := ext) h 1 (by omega) (by omega)
  have e1 : IntKind.wrap .i64 1 = 1 := by decide
  simp -implicitDefEqProofs [x45L1, hm, e1, bookI, nilB, exAppendX, exAppend, exAppendK, elems]
theorem growZ0_inner (h : code 411 = some x411)   {s : St} (hst : s.tidy [0, 2, 3, 4, 5] = ⟨2, [(0, .optr 0 0), (2, int64 0), (3, .optr 2 0), (4, nilB), (5, int64 0)], [.rich (bookI 2 (.osl 1 0 3 2 none)), .rich [nilB, nilB, int64 1, nilB, nilB, int64 2], .rich [nilB, nilB, int64 1]]⟩) :
    den code ext (.loop [0, 2, 3, 4, 5] x45L1) s = some (.exit 2, ⟨2, [(0, .optr 0 0), (2, int64 0), (3, .optr 2 0), (4, .osl 3 0 1 (40) none), (5, int64 40), (25, avb false)], [.rich (bookI 2 (.osl 1 0 3 2 none)), .rich [nilB, nilB, int64 1, nilB, nilB, int64 2], .rich [nilB, nilB, int64 1], .fix (rowI (List.replicate (40) (-1001))) false true]⟩) := by
  rw [den_loop, hst, growZ0_s0 h  ]
  simp only [andThen]
  exact growZ0_long h  1 (by omega)  (.inl rfl) (by
    simp -implicitDefEqProofs [bookI, nilB, rowI, Ty.row, tInt])
theorem growZ0_item (h : code 411 = some x411)   :
    ∃ s', den code ext x45L2 ⟨2, [(0, .optr 0 0), (2, int64 0)], [.rich (bookI 2 (.osl 1 0 3 2 none)), .rich [nilB, nilB, int64 1, nilB, nilB, int64 2]]⟩ = some (.normal, s') ∧ s'.tidy [0, 2] = ⟨2, [(0, .optr 0 0), (2, int64 1)], [.rich (bookI 2 (.osl 1 0 3 2 none)), .rich [nilB, .osl 2 0 1 (40) none, int64 1, nilB, nilB, int64 2], .fix (rowI (List.replicate (40) (-1001))) false true]⟩ := by
  have e1 : IntKind.wrap .i64 1 = 1 := by decide
  have hl := growZ0_inner (ext := ext) h   (s := ⟨2, [(0, .optr 0 0), (2, int64 0), (3, .optr 2 0), (4, nilB), (5, int64 0)], [.rich (bookI 2 (.osl 1 0 3 2 none)), .rich [nilB, nilB, int64 1, nilB, nilB, int64 2], .rich [nilB, nilB, int64 1]]⟩) (by
    simp -implicitDefEqProofs [bookI, nilB])
  refine ⟨⟨2, [(0, .optr 0 0), (2, int64 1)], [.rich (bookI 2 (.osl 1 0 3 2 none)), .rich [nilB, .osl 3 0 1 (40) none, int64 1, nilB, nilB, int64 2], .rich [nilB, nilB, int64 1], .fix (rowI (List.replicate (40) (-1001))) false true]⟩, ?_, ?_⟩
  · simp only [bookI, nilB] at hl
    generalize rowI (List.replicate (40) (-1001)) = H0 at *
    simp -implicitDefEqProofs [x45L2, e1, hl, bookI, nilB]
  · clear hl
    generalize rowI (List.replicate (40) (-1001)) = H0
    simp -implicitDefEqProofs [bookI, nilB]
theorem growZ1_long (h : code 411 = some x411)  (j0 : Nat) (hj0 : 0 < j0 ∧ j0 < 40)  {o : AObj} (ho : o = .flat (rowI (List.replicate (j0) (-1002))) false ∨ o = .fix (rowI (List.replicate (j0) (-1002))) false true) {s : St}
    (hst : s.tidy [0, 2, 3, 4, 5] = ⟨2, [(0, .optr 0 0), (2, int64 1), (3, .optr 2 0), (4, .osl 3 0 1 (j0) none), (5, int64 (j0 : Nat))], [.rich (bookI 2 (.osl 1 0 3 2 none)), .rich [nilB, .osl 4 0 1 (40) none, int64 1, nilB, nilB, int64 2], .rich [nilB, nilB, int64 2], o, .fix (rowI (List.replicate (40) (-1001))) false true]⟩) :
    den code ext (.loop [0, 2, 3, 4, 5] x45L1) s = some (.exit 2, ⟨2, [(0, .optr 0 0), (2, int64 1), (3, .optr 2 0), (4, .osl 3 0 1 (40) none), (5, int64 40), (25, avb false)], [.rich (bookI 2 (.osl 1 0 3 2 none)), .rich [nilB, .osl 4 0 1 (40) none, int64 1, nilB, nilB, int64 2], .rich [nilB, nilB, int64 2], .fix (rowI (List.replicate (40) (-1002))) false true, .fix (rowI (List.replicate (40) (-1001))) false true]⟩) := by
  obtain ⟨e, s', h2, _, rfl, rfl⟩ := loop_rule (code := code) (ext := ext) (keep := [0, 2, 3, 4, 5]) (b := x45L1) (fun c s => ∃ j o, 0 < j ∧ j + c = 40 ∧ (c = 0 → o = .fix (rowI (List.replicate (j) (-1002))) false true) ∧ (o = .flat (rowI (List.replicate (j) (-1002))) false ∨ o = .fix (rowI (List.replicate (j) (-1002))) false true) ∧ s.tidy [0, 2, 3, 4, 5] = ⟨2, [(0, .optr 0 0), (2, int64 1), (3, .optr 2 0), (4, .osl 3 0 1 (j) none), (5, int64 (j : Nat))], [.rich (bookI 2 (.osl 1 0 3 2 none)), .rich [nilB, .osl 4 0 1 (40) none, int64 1, nilB, nilB, int64 2], .rich [nilB, nilB, int64 2], o, .fix (rowI (List.replicate (40) (-1001))) false true]⟩)
    (fun e s' => e = .exit 2 ∧ s' = ⟨2, [(0, .optr 0 0), (2, int64 1), (3, .optr 2 0), (4, .osl 3 0 1 (40) none), (5, int64 40), (25, avb false)], [.rich (bookI 2 (.osl 1 0 3 2 none)), .rich [nilB, .osl 4 0 1 (40) none, int64 1, nilB, nilB, int64 2], .rich [nilB, nilB, int64 2], .fix (rowI (List.replicate (40) (-1002))) false true, .fix (rowI (List.replicate (40) (-1001))) false true]⟩) (fun c s => by
    rintro ⟨j, o, hj1, hj, hc0, ho, hst⟩
    rw [hst]
    by_cases hlt : j < 40
    · have hm := markI_spec (ext := ext) h 2 (by omega) (by omega)
      have e1 : IntKind.wrap .i64 ((j : Int) + 1) = (j : Int) + 1 := wrapI64 (by omega) (by omega)
      have hsn := repI_snoc (j) (-1002)
      have hrl := repI_len (j) (-1002)
      have hbd : ((j + 1)) * 8 ≤ 140737488355328 := by omega
      have hlt' : (j : Int) < 40 := by omega
      have e3 : j + 1 = (j + 1) := by omega
      rw [e3] at hsn
      refine ⟨.normal, ⟨2, [(0, .optr 0 0), (2, int64 1), (3, .optr 2 0), (4, .osl 6 0 1 ((j + 1)) none), (5, int64 ((j : Int) + 1))], [.rich (bookI 2 (.osl 1 0 3 2 none)), .rich [nilB, .osl 4 0 1 (40) none, int64 1, nilB, nilB, int64 2], .rich [nilB, nilB, int64 2], .fix (rowI (List.replicate (j) (-1002))) false false, .fix (rowI (List.replicate (40) (-1001))) false true, .flat [.val (.int .i64 (-1002))] false, .fix (rowI (List.replicate ((j + 1)) (-1002))) false true]⟩, ?_, .inl ⟨rfl, c - 1, by omega, j + 1, .fix (rowI (List.replicate ((j + 1)) (-1002))) false true, by omega, by omega, fun _ => rfl, .inr rfl, ?_⟩⟩
      · generalize rowI (List.replicate ((j + 1)) (-1002)) = R2 at *
        rcases ho with rfl | rfl
        · generalize rowI (List.replicate (j) (-1002)) = R1 at *
          generalize rowI (List.replicate (40) (-1001)) = G0
          simp -implicitDefEqProofs [x45L1, hlt', hlt, hm, hsn, hrl, hbd, e1, e3, bookI, nilB, exAppendX, exAppend, exAppendK, elems]
        · generalize rowI (List.replicate (j) (-1002)) = R1 at *
          generalize rowI (List.replicate (40) (-1001)) = G0
          simp -implicitDefEqProofs [x45L1, hlt', hlt, hm, hsn, hrl, hbd, e1, e3, bookI, nilB, exAppendX, exAppend, exAppendK, elems]
      · generalize rowI (List.replicate ((j + 1)) (-1002)) = R2
        generalize rowI (List.replicate (j) (-1002)) = R1
        generalize rowI (List.replicate (40) (-1001)) = G0
        simp -implicitDefEqProofs [bookI, nilB]
    · have : j = 40 := by omega
      subst this
      have : c = 0 := by omega
      subst this
      obtain rfl := hc0 rfl
      refine ⟨.exit 2, _, ?_, .inr ⟨by simp, rfl, rfl⟩⟩
      generalize rowI (List.replicate (40) (-1002)) = R2
      generalize rowI (List.replicate (40) (-1001)) = G0
      simp -implicitDefEqProofs [x45L1]) (40 - j0) s ⟨j0, o, by omega, by omega, fun h => absurd h (by omega), ho, hst⟩
  exact h2
theorem growZ1_s0 (h : code 411 = some x411)   :
    den code ext x45L1 ⟨2, [(0, .optr 0 0), (2, int64 1), (3, .optr 2 0), (4, nilB), (5, int64 0)], [.rich (bookI 2 (.osl 1 0 3 2 none)), .rich [nilB, .osl 3 0 1 (40) none, int64 1, nilB, nilB, int64 2], .rich [nilB, nilB, int64 2], .fix (rowI (List.replicate (40) (-1001))) false true]⟩ = some (.normal, ⟨2, [(0, .optr 0 0), (2, int64 1), (3, .optr 2 0), (4, .osl 5 0 1 1 none), (5, int64 1)], [.rich (bookI 2 (.osl 1 0 3 2 none)), .rich [nilB, .osl 3 0 1 (40) none, int64 1, nilB, nilB, int64 2], .rich [nilB, nilB, int64 2], .fix (rowI (List.replicate (40) (-1001))) false true, .flat [.val (.int .i64 (-1002))] false, .flat [.val (.int .i64 (-1002))] false]⟩) := by
  have hm := markI_spec (ext := ext) h 2 (by omega) (by omega)
  have e1 : IntKind.wrap .i64 1 = 1 := by decide
  simp -implicitDefEqProofs [x45L1, hm, e1, bookI, nilB, exAppendX, exAppend, exAppendK, elems]
theorem growZ1_inner (h : code 411 = some x411)   {s : St} (hst : s.tidy [0, 2, 3, 4, 5] = ⟨2, [(0, .optr 0 0), (2, int64 1), (3, .optr 2 0), (4, nilB), (5, int64 0)], [.rich (bookI 2 (.osl 1 0 3 2 none)), .rich [nilB, .osl 3 0 1 (40) none, int64 1, nilB, nilB, int64 2], .rich [nilB, nilB, int64 2], .fix (rowI (List.replicate (40) (-1001))) false true]⟩) :
    den code ext (.loop [0, 2, 3, 4, 5] x45L1) s = some (.exit 2, ⟨2, [(0, .optr 0 0), (2, int64 1), (3, .optr 2 0), (4, .osl 3 0 1 (40) none), (5, int64 40), (25, avb false)], [.rich (bookI 2 (.osl 1 0 3 2 none)), .rich [nilB, .osl 4 0 1 (40) none, int64 1, nilB, nilB, int64 2], .rich [nilB, nilB, int64 2], .fix (rowI (List.replicate (40) (-1002))) false true, .fix (rowI (List.replicate (40) (-1001))) false true]⟩) := by
  rw [den_loop, hst, growZ1_s0 h  ]
  simp only [andThen]
  exact growZ1_long h  1 (by omega)  (.inl rfl) (by
    generalize rowI (List.replicate (40) (-1001)) = H0
    simp -implicitDefEqProofs [bookI, nilB, rowI, Ty.row, tInt])
theorem growZ1_item (h : code 411 = some x411)   :
    ∃ s', den code ext x45L2 ⟨2, [(0, .optr 0 0), (2, int64 1)], [.rich (bookI 2 (.osl 1 0 3 2 none)), .rich [nilB, .osl 2 0 1 (40) none, int64 1, nilB, nilB, int64 2], .fix (rowI (List.replicate (40) (-1001))) false true]⟩ = some (.normal, s') ∧ s'.tidy [0, 2] = ⟨2, [(0, .optr 0 0), (2, int64 2)], [.rich (bookI 2 (.osl 1 0 3 2 none)), .rich [nilB, .osl 2 0 1 (40) none, int64 1, nilB, .osl 3 0 1 (40) none, int64 2], .fix (rowI (List.replicate (40) (-1001))) false true, .fix (rowI (List.replicate (40) (-1002))) false true]⟩ := by
  have e1 : IntKind.wrap .i64 2 = 2 := by decide
  have hl := growZ1_inner (ext := ext) h   (s := ⟨2, [(0, .optr 0 0), (2, int64 1), (3, .optr 3 0), (4, nilB), (5, int64 0)], [.rich (bookI 2 (.osl 1 0 3 2 none)), .rich [nilB, .osl 2 0 1 (40) none, int64 1, nilB, nilB, int64 2], .fix (rowI (List.replicate (40) (-1001))) false true, .rich [nilB, nilB, int64 2]]⟩) (by
    generalize rowI (List.replicate (40) (-1001)) = H0
    generalize rowI (List.replicate (40) (-1002)) = H1
    simp -implicitDefEqProofs [bookI, nilB])
  refine ⟨⟨2, [(0, .optr 0 0), (2, int64 2)], [.rich (bookI 2 (.osl 1 0 3 2 none)), .rich [nilB, .osl 4 0 1 (40) none, int64 1, nilB, .osl 3 0 1 (40) none, int64 2], .rich [nilB, nilB, int64 2], .fix (rowI (List.replicate (40) (-1002))) false true, .fix (rowI (List.replicate (40) (-1001))) false true]⟩, ?_, ?_⟩
  · simp only [bookI, nilB] at hl
    generalize rowI (List.replicate (40) (-1001)) = H0 at *
    generalize rowI (List.replicate (40) (-1002)) = H1 at *
    simp -implicitDefEqProofs [x45L2, e1, hl, bookI, nilB]
  · clear hl
    generalize rowI (List.replicate (40) (-1001)) = H0
    generalize rowI (List.replicate (40) (-1002)) = H1
    simp -implicitDefEqProofs [bookI, nilB]
theorem growZ_spec (h : code 411 = some x411) (h45 : code 45 = some x45)   :
    callW code ext 45 [.optr 0 0] [.rich (bookI 2 (.osl 1 0 3 2 none)), .rich [nilB, nilB, int64 1, nilB, nilB, int64 2]] = some (.tup [], [.rich (bookI 2 (.osl 1 0 3 2 none)), .rich [nilB, .osl 2 0 1 (40) none, int64 1, nilB, .osl 3 0 1 (40) none, int64 2], .fix (rowI (List.replicate (40) (-1001))) false true, .fix (rowI (List.replicate (40) (-1002))) false true]) := by
  obtain ⟨s1, a1, b1⟩ := growZ0_item (ext := ext) h
  obtain ⟨s2, a2, b2⟩ := growZ1_item (ext := ext) h
  rw [callW_fun code ext h45]
  have i3 : ∀ M : Mem, M = [.rich (bookI 2 (.osl 1 0 3 2 none)), .rich [nilB, .osl 2 0 1 (40) none, int64 1, nilB, .osl 3 0 1 (40) none, int64 2], .fix (rowI (List.replicate (40) (-1001))) false true, .fix (rowI (List.replicate (40) (-1002))) false true] → ∃ e, den code ext x45L2 ⟨2, [(0, .optr 0 0), (2, int64 2)], M⟩ = some (.exit 0, ⟨2, e, M⟩) := by
    rintro M rfl
    exact ⟨[(0, .optr 0 0), (2, int64 2), (12, avb false)], by
      generalize rowI (List.replicate (40) (-1001)) = H0
      generalize rowI (List.replicate (40) (-1002)) = H1
      simp -implicitDefEqProofs [x45L2, bookI, nilB]⟩
  obtain ⟨e, i3⟩ := i3 _ rfl
  have hT : (⟨2, [(0, .optr 0 0), (2, int64 0)], [.rich (bookI 2 (.osl 1 0 3 2 none)), .rich [nilB, nilB, int64 1, nilB, nilB, int64 2]]⟩ : St).tidy [0, 2] = ⟨2, [(0, .optr 0 0), (2, int64 0)], [.rich (bookI 2 (.osl 1 0 3 2 none)), .rich [nilB, nilB, int64 1, nilB, nilB, int64 2]]⟩ := by
    simp -implicitDefEqProofs [bookI, nilB]
  have hL : den code ext (.loop [0, 2] x45L2) ⟨2, [(0, .optr 0 0), (2, int64 0)], [.rich (bookI 2 (.osl 1 0 3 2 none)), .rich [nilB, nilB, int64 1, nilB, nilB, int64 2]]⟩ = some (.exit 0, ⟨2, e, [.rich (bookI 2 (.osl 1 0 3 2 none)), .rich [nilB, .osl 2 0 1 (40) none, int64 1, nilB, .osl 3 0 1 (40) none, int64 2], .fix (rowI (List.replicate (40) (-1001))) false true, .fix (rowI (List.replicate (40) (-1002))) false true]⟩) := by
    rw [den_loop, hT, a1]
    simp only [andThen]
    rw [den_loop, b1, a2]
    simp only [andThen]
    rw [den_loop, b2, i3]
    rfl
  clear hT a1 b1 a2 b2 i3
  simp only [bookI, nilB] at hL
  generalize rowI (List.replicate (40) (-1001)) = H0 at *
  generalize rowI (List.replicate (40) (-1002)) = H1 at *
  simp -implicitDefEqProofs [x45, hL, bookI, nilB]
end
end Go.EX

