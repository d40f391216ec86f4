import Derived.Test.YtfmpeoickjggiaaGreatDoorC9z
import Derived.Test.YtfmpeoickjggiaaGreatDoorV9j
import Derived.Test.YtfmpeoickjggiaaGreatDoorK3
set_option maxHeartbeats 2000000
set_option linter.unusedVariables false
set_option linter.unusedSimpArgs false
namespace Go.EX
def nilB : AV := .imm (.val (.slice none 0 0))
def bookI (n : Int) (v : AV) : List AV := [int64 n, v, nilB, nilB, nilB, nilB, nilB, nilB, nilB, nilB, nilB, nilB, nilB, nilB, nilB, nilB, nilB, nilB, nilB, nilB, nilB]
def marksI (m : Int) (j : Nat) (vs : List Int) : List Int := List.replicate j m ++ vs.drop j
theorem marksI_zero (m : Int) (vs : List Int) : marksI m 0 vs = vs := by simp [marksI]
theorem marksI_full (m : Int) {n : Nat} {vs : List Int} (h : vs.length = n) : marksI m n vs = List.replicate n m := by subst h; simp [marksI]
theorem marksI_row (m : Int) {j : Nat} {vs : List Int} (h : j < vs.length) : (rowI (marksI m j vs)).set j (.val (.int .i64 m)) = rowI (marksI m (j + 1) vs) := by
  rw [rowI_set]; congr 1
  unfold marksI
  rw [List.set_append_right _ _ (by simp)]
  simp only [List.length_replicate, Nat.sub_self]
  rw [List.drop_eq_getElem_cons h, List.set_cons_zero, List.replicate_succ']
  simp
theorem marksI_len (m : Int) {j : Nat} {vs : List Int} (h : j ≤ vs.length) : (rowI (marksI m j vs)).length = vs.length := by rw [rowI_len]; simp [marksI]; omega
section
variable {code : Nat → Option XFun} {ext : Calls'}
theorem markI_spec (h : code 411 = some x411) (i : Int) (h0 : 0 ≤ i) (h1 : i ≤ 1000) : callW code ext 411 [int64 i] [] = some (int64 (-1000 - i), []) := by
  rw [callW_fun code ext h]
  have e1 : IntKind.wrap .i64 (-1000 - i) = -1000 - i := wrapI64 (by omega) (by omega)
  simp -implicitDefEqProofs [x411, e1]
theorem isI_spec (h : code 391 = some x391) (i : Int) (h0 : 0 ≤ i) (h1 : i ≤ 1000) : callW code ext 391 [int64 (-1000 - i), int64 i] [] = some (avb true, []) := by
  rw [callW_fun code ext h]
  have e1 : IntKind.wrap .i64 (-1000 - i) = -1000 - i := wrapI64 (by omega) (by omega)
  simp -implicitDefEqProofs [x391, e1]
theorem fillP0_loop (h : code 411 = some x411) (n : Nat) (m2 m3 : Bool) (v2 v3 vs : List Int) (hlen : vs.length = n) (hn : n ≤ 20000) {s : St} (hst : s.tidy [0, 2, 3, 4] = ⟨4, [(0, .optr 0 0), (2, int64 0), (3, .optr 4 0), (4, int64 0)], [.rich (bookI 2 (.osl 1 0 3 2 none)), .rich [.osl 2 0 1 n none, nilB, int64 1, .osl 3 0 1 n none, nilB, int64 2], .flat (rowI (vs)) m2, .flat (rowI (v3)) m3, .rich [.osl 2 0 1 n none, nilB, int64 1]]⟩) :
    den code ext (.loop [0, 2, 3, 4] x25L1) s = some (.exit 2, ⟨4, [(0, .optr 0 0), (2, int64 0), (3, .optr 4 0), (4, int64 (n : Nat)), (25, avb false)], [.rich (bookI 2 (.osl 1 0 3 2 none)), .rich [.osl 2 0 1 n none, nilB, int64 1, .osl 3 0 1 n none, nilB, int64 2], .flat (rowI (marksI (-1001) n vs)) m2, .flat (rowI (v3)) m3, .rich [.osl 2 0 1 n none, nilB, int64 1]]⟩) := by
  obtain ⟨e, s', h2, _, rfl, rfl⟩ := loop_rule (code := code) (ext := ext) (keep := [0, 2, 3, 4]) (b := x25L1) (fun c s => ∃ j, j + c = n ∧ s.tidy [0, 2, 3, 4] = ⟨4, [(0, .optr 0 0), (2, int64 0), (3, .optr 4 0), (4, int64 (j : Nat))], [.rich (bookI 2 (.osl 1 0 3 2 none)), .rich [.osl 2 0 1 n none, nilB, int64 1, .osl 3 0 1 n none, nilB, int64 2], .flat (rowI (marksI (-1001) j vs)) m2, .flat (rowI (v3)) m3, .rich [.osl 2 0 1 n none, nilB, int64 1]]⟩)
    (fun e s' => e = .exit 2 ∧ s' = ⟨4, [(0, .optr 0 0), (2, int64 0), (3, .optr 4 0), (4, int64 (n : Nat)), (25, avb false)], [.rich (bookI 2 (.osl 1 0 3 2 none)), .rich [.osl 2 0 1 n none, nilB, int64 1, .osl 3 0 1 n none, nilB, int64 2], .flat (rowI (marksI (-1001) n vs)) m2, .flat (rowI (v3)) m3, .rich [.osl 2 0 1 n none, nilB, int64 1]]⟩) (fun c s => by
    rintro ⟨j, hj, hst⟩
    rw [hst]
    by_cases hlt : j < n
    · have hm := markI_spec (ext := ext) h 1 (by omega) (by omega)
      have e1 : IntKind.wrap .i64 ((j : Int) + 1) = (j : Int) + 1 := wrapI64 (by omega) (by omega)
      have hset := marksI_row (-1001) (j := j) (vs := vs) (by omega)
      have hrl := marksI_len (-1001) (j := j) (vs := vs) (by omega)
      have hlt' : (j : Int) < n := by omega
      refine ⟨.normal, ⟨4, [(0, .optr 0 0), (2, int64 0), (3, .optr 4 0), (4, int64 ((j : Int) + 1))], [.rich (bookI 2 (.osl 1 0 3 2 none)), .rich [.osl 2 0 1 n none, nilB, int64 1, .osl 3 0 1 n none, nilB, int64 2], .flat (rowI (marksI (-1001) (j + 1) vs)) m2, .flat (rowI (v3)) m3, .rich [.osl 2 0 1 n none, nilB, int64 1]]⟩, ?_, .inl ⟨rfl, c - 1, by omega, j + 1, by omega, ?_⟩⟩
      · have hfit : j + 1 ≤ (rowI (marksI (-1001) j vs)).length := by omega
        generalize rowI (marksI (-1001) j vs) = R1 at *
        generalize rowI (marksI (-1001) (j + 1) vs) = R2 at *
        generalize rowI v3 = R3
        simp -implicitDefEqProofs [x25L1, hlt, hlt', hm, hset, hfit, setAll, e1, bookI, nilB]
      · generalize rowI (marksI (-1001) (j + 1) vs) = R2
        generalize rowI v3 = R3
        simp -implicitDefEqProofs [bookI, nilB]
    · have : j = n := by omega
      subst this
      refine ⟨.exit 2, _, ?_, .inr ⟨by simp, rfl, rfl⟩⟩
      generalize rowI (marksI (-1001) j vs) = R2
      generalize rowI v3 = R3
      simp -implicitDefEqProofs [x25L1]) n s ⟨0, by simp, by rw [hst, marksI_zero]; rfl⟩
  exact h2
theorem fillP1_loop (h : code 411 = some x411) (n : Nat) (m2 m3 : Bool) (v2 v3 vs : List Int) (hlen : vs.length = n) (hn : n ≤ 20000) {s : St} (hst : s.tidy [0, 2, 3, 4] = ⟨4, [(0, .optr 0 0), (2, int64 1), (3, .optr 4 0), (4, int64 0)], [.rich (bookI 2 (.osl 1 0 3 2 none)), .rich [.osl 2 0 1 n none, nilB, int64 1, .osl 3 0 1 n none, nilB, int64 2], .flat (rowI (v2)) m2, .flat (rowI (vs)) m3, .rich [.osl 3 0 1 n none, nilB, int64 2]]⟩) :
    den code ext (.loop [0, 2, 3, 4] x25L1) s = some (.exit 2, ⟨4, [(0, .optr 0 0), (2, int64 1), (3, .optr 4 0), (4, int64 (n : Nat)), (25, avb false)], [.rich (bookI 2 (.osl 1 0 3 2 none)), .rich [.osl 2 0 1 n none, nilB, int64 1, .osl 3 0 1 n none, nilB, int64 2], .flat (rowI (v2)) m2, .flat (rowI (marksI (-1002) n vs)) m3, .rich [.osl 3 0 1 n none, nilB, int64 2]]⟩) := by
  obtain ⟨e, s', h2, _, rfl, rfl⟩ := loop_rule (code := code) (ext := ext) (keep := [0, 2, 3, 4]) (b := x25L1) (fun c s => ∃ j, j + c = n ∧ s.tidy [0, 2, 3, 4] = ⟨4, [(0, .optr 0 0), (2, int64 1), (3, .optr 4 0), (4, int64 (j : Nat))], [.rich (bookI 2 (.osl 1 0 3 2 none)), .rich [.osl 2 0 1 n none, nilB, int64 1, .osl 3 0 1 n none, nilB, int64 2], .flat (rowI (v2)) m2, .flat (rowI (marksI (-1002) j vs)) m3, .rich [.osl 3 0 1 n none, nilB, int64 2]]⟩)
    (fun e s' => e = .exit 2 ∧ s' = ⟨4, [(0, .optr 0 0), (2, int64 1), (3, .optr 4 0), (4, int64 (n : Nat)), (25, avb false)], [.rich (bookI 2 (.osl 1 0 3 2 none)), .rich [.osl 2 0 1 n none, nilB, int64 1, .osl 3 0 1 n none, nilB, int64 2], .flat (rowI (v2)) m2, .flat (rowI (marksI (-1002) n vs)) m3, .rich [.osl 3 0 1 n none, nilB, int64 2]]⟩) (fun c s => by
    rintro ⟨j, hj, hst⟩
    rw [hst]
    by_cases hlt : j < n
    · have hm := markI_spec (ext := ext) h 2 (by omega) (by omega)
      have e1 : IntKind.wrap .i64 ((j : Int) + 1) = (j : Int) + 1 := wrapI64 (by omega) (by omega)
      have hset := marksI_row (-1002) (j := j) (vs := vs) (by omega)
      have hrl := marksI_len (-1002) (j := j) (vs := vs) (by omega)
      have hlt' : (j : Int) < n := by omega
      refine ⟨.normal, ⟨4, [(0, .optr 0 0), (2, int64 1), (3, .optr 4 0), (4, int64 ((j : Int) + 1))], [.rich (bookI 2 (.osl 1 0 3 2 none)), .rich [.osl 2 0 1 n none, nilB, int64 1, .osl 3 0 1 n none, nilB, int64 2], .flat (rowI (v2)) m2, .flat (rowI (marksI (-1002) (j + 1) vs)) m3, .rich [.osl 3 0 1 n none, nilB, int64 2]]⟩, ?_, .inl ⟨rfl, c - 1, by omega, j + 1, by omega, ?_⟩⟩
      · have hfit : j + 1 ≤ (rowI (marksI (-1002) j vs)).length := by omega
        generalize rowI (marksI (-1002) j vs) = R1 at *
        generalize rowI (marksI (-1002) (j + 1) vs) = R2 at *
        generalize rowI v2 = R3
        simp -implicitDefEqProofs [x25L1, hlt, hlt', hm, hset, hfit, setAll, e1, bookI, nilB]
      · generalize rowI (marksI (-1002) (j + 1) vs) = R2
        generalize rowI v2 = R3
        simp -implicitDefEqProofs [bookI, nilB]
    · have : j = n := by omega
      subst this
      refine ⟨.exit 2, _, ?_, .inr ⟨by simp, rfl, rfl⟩⟩
      generalize rowI (marksI (-1002) j vs) = R2
      generalize rowI v2 = R3
      simp -implicitDefEqProofs [x25L1]) n s ⟨0, by simp, by rw [hst, marksI_zero]; rfl⟩
  exact h2
theorem fillP0_item (h : code 411 = some x411) (n : Nat) (m2 m3 : Bool) (v2 v3 : List Int) (hv2 : v2.length = n) (hv3 : v3.length = n) (hn : n ≤ 20000) :
    den code ext x25L2 ⟨4, [(0, .optr 0 0), (2, int64 0)], [.rich (bookI 2 (.osl 1 0 3 2 none)), .rich [.osl 2 0 1 n none, nilB, int64 1, .osl 3 0 1 n none, nilB, int64 2], .flat (rowI (v2)) m2, .flat (rowI (v3)) m3]⟩ = some (.normal, ⟨4, [(0, .optr 0 0), (2, int64 1)], [.rich (bookI 2 (.osl 1 0 3 2 none)), .rich [.osl 2 0 1 n none, nilB, int64 1, .osl 3 0 1 n none, nilB, int64 2], .flat (rowI (List.replicate n (-1001))) m2, .flat (rowI (v3)) m3, .rich [.osl 2 0 1 n none, nilB, int64 1]]⟩) := by
  have e1 : IntKind.wrap .i64 1 = 1 := by decide
  have hl := fillP0_loop (ext := ext) h n m2 m3 (v2) (v3) v2 hv2 hn (s := ⟨4, [(0, .optr 0 0), (2, int64 0), (3, .optr 4 0), (4, int64 0)], [.rich (bookI 2 (.osl 1 0 3 2 none)), .rich [.osl 2 0 1 n none, nilB, int64 1, .osl 3 0 1 n none, nilB, int64 2], .flat (rowI (v2)) m2, .flat (rowI (v3)) m3, .rich [.osl 2 0 1 n none, nilB, int64 1]]⟩) (by
    generalize rowI (v2) = Q1
    generalize rowI (v3) = Q2
    simp -implicitDefEqProofs [bookI, nilB])
  rw [marksI_full _ hv2] at hl
  simp only [bookI, nilB] at hl
  generalize rowI (List.replicate n (-1001)) = R at *
  generalize rowI (v2) = Q1 at *
  generalize rowI (v3) = Q2 at *
  simp -implicitDefEqProofs [x25L2, e1, hl, bookI, nilB]
theorem fillP1_item (h : code 411 = some x411) (n : Nat) (m2 m3 : Bool) (v2 v3 : List Int) (hv2 : v2.length = n) (hv3 : v3.length = n) (hn : n ≤ 20000) :
    den code ext x25L2 ⟨4, [(0, .optr 0 0), (2, int64 1)], [.rich (bookI 2 (.osl 1 0 3 2 none)), .rich [.osl 2 0 1 n none, nilB, int64 1, .osl 3 0 1 n none, nilB, int64 2], .flat (rowI (List.replicate n (-1001))) m2, .flat (rowI (v3)) m3]⟩ = some (.normal, ⟨4, [(0, .optr 0 0), (2, int64 2)], [.rich (bookI 2 (.osl 1 0 3 2 none)), .rich [.osl 2 0 1 n none, nilB, int64 1, .osl 3 0 1 n none, nilB, int64 2], .flat (rowI (List.replicate n (-1001))) m2, .flat (rowI (List.replicate n (-1002))) m3, .rich [.osl 3 0 1 n none, nilB, int64 2]]⟩) := by
  have e1 : IntKind.wrap .i64 2 = 2 := by decide
  have hl := fillP1_loop (ext := ext) h n m2 m3 (List.replicate n (-1001)) (v3) v3 hv3 hn (s := ⟨4, [(0, .optr 0 0), (2, int64 1), (3, .optr 4 0), (4, int64 0)], [.rich (bookI 2 (.osl 1 0 3 2 none)), .rich [.osl 2 0 1 n none, nilB, int64 1, .osl 3 0 1 n none, nilB, int64 2], .flat (rowI (List.replicate n (-1001))) m2, .flat (rowI (v3)) m3, .rich [.osl 3 0 1 n none, nilB, int64 2]]⟩) (by
    generalize rowI (List.replicate n (-1001)) = Q1
    generalize rowI (v3) = Q2
    simp -implicitDefEqProofs [bookI, nilB])
  rw [marksI_full _ hv3] at hl
  simp only [bookI, nilB] at hl
  generalize rowI (List.replicate n (-1002)) = R at *
  generalize rowI (List.replicate n (-1001)) = Q1 at *
  generalize rowI (v3) = Q2 at *
  simp -implicitDefEqProofs [x25L2, e1, hl, bookI, nilB]
theorem fillP_spec (h : code 411 = some x411) (h25 : code 25 = some x25) (n : Nat) (m2 m3 : Bool) (v2 v3 : List Int) (hv2 : v2.length = n) (hv3 : v3.length = n) (hn : n ≤ 20000) :
    callW code ext 25 [.optr 0 0] [.rich (bookI 2 (.osl 1 0 3 2 none)), .rich [.osl 2 0 1 n none, nilB, int64 1, .osl 3 0 1 n none, nilB, int64 2], .flat (rowI (v2)) m2, .flat (rowI (v3)) m3] = some (.tup [], [.rich (bookI 2 (.osl 1 0 3 2 none)), .rich [.osl 2 0 1 n none, nilB, int64 1, .osl 3 0 1 n none, nilB, int64 2], .flat (rowI (List.replicate n (-1001))) m2, .flat (rowI (List.replicate n (-1002))) m3]) := by
  have i0 := fillP0_item (ext := ext) h n m2 m3 v2 v3 hv2 hv3 hn
  have i1 := fillP1_item (ext := ext) h n m2 m3 v2 v3 hv2 hv3 hn
  have i3 : ∀ M : Mem, M = [.rich (bookI 2 (.osl 1 0 3 2 none)), .rich [.osl 2 0 1 n none, nilB, int64 1, .osl 3 0 1 n none, nilB, int64 2], .flat (rowI (List.replicate n (-1001))) m2, .flat (rowI (List.replicate n (-1002))) m3] → ∃ e, den code ext x25L2 ⟨4, [(0, .optr 0 0), (2, int64 2)], M⟩ = some (.exit 0, ⟨4, e, M⟩) := by
    rintro M rfl
    exact ⟨[(0, .optr 0 0), (2, int64 2), (11, avb false)], by
      generalize rowI (List.replicate n (-1001)) = Q1
      generalize rowI (List.replicate n (-1002)) = Q2
      simp -implicitDefEqProofs [x25L2, bookI, nilB]⟩
  obtain ⟨e, i3⟩ := i3 _ rfl
  rw [callW_fun code ext h25]
  simp only [bookI, nilB] at i0 i1 i3
  generalize rowI (List.replicate n (-1001)) = Q1 at *
  generalize rowI (List.replicate n (-1002)) = Q2 at *
  generalize rowI v2 = Q3 at *
  generalize rowI v3 = Q4 at *
  simp -implicitDefEqProofs [x25, den_loop, i0, i1, i3, bookI, nilB]
theorem fillZ_spec (h25 : code 25 = some x25) : callW code ext 25 [.optr 0 0] [.rich (bookI 2 (.osl 1 0 3 2 none)), .rich [nilB, nilB, int64 1, nilB, nilB, int64 2]] = some (.tup [], [.rich (bookI 2 (.osl 1 0 3 2 none)), .rich [nilB, nilB, int64 1, nilB, nilB, int64 2]]) := by
  rw [callW_fun code ext h25]
  have e1 : IntKind.wrap .i64 1 = 1 := by decide
  have e2 : IntKind.wrap .i64 2 = 2 := by decide
  simp -implicitDefEqProofs [x25, x25L2, x25L1, den_loop, e1, e2, bookI, nilB]
end
end Go.EX

