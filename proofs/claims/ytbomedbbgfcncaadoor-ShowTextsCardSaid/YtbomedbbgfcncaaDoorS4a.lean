import Derived.Test.YtbomedbbgfcncaaDoorC4
import Derived.Test.YtbomedbbgfcncaaDoorK4
set_option linter.unusedVariables false
set_option linter.unusedSimpArgs false
namespace Go.EX
section
variable {code : Nat → Option XFun} {ext : Calls'}
theorem wrap_add (a b : Int) : IntKind.wrap .i64 (IntKind.wrap .i64 a + b) = IntKind.wrap .i64 (a + b) := by
  simp only [IntKind.wrap, IntKind.signed, IntKind.bits]
  simp
  omega
theorem valsSize_spec (h : code 380 = some x380) {iv : IV} {xs : List Val} (hr : Reads tVal iv xs) : callW code ext 380 [.imm iv] [] = some (int64 xs.length, []) := by
  rw [callW_fun code ext h]
  simp -implicitDefEqProofs [x380, reads_len hr]
def objSize (o : Obj) : Int := if (1 + o.s.size : Int) ≤ 1048576 then 1 + o.s.size + o.l.xs.length else 1 + o.s.size
theorem objSize_spec (h : code 380 = some x380) (h' : code 338 = some x338) (o : Obj) (hw : tObj.wf o) :
    callW code ext 338 [.agg [.imm (.val (.int .u8 o.k)), .imm (.val (.string o.s)), .imm o.l.iv, int64 o.room, int64 o.fn]] [] = some (int64 (objSize o), []) := by
  rw [callW_fun code ext h']
  have hs : o.s.size ≤ 140737488355328 := hw.2.1
  have hl := o.l.ok.2.1
  have e1 : IntKind.wrap .i64 (1 + (o.s.size : Int)) = 1 + o.s.size := wrapI64 (by omega) (by omega)
  have e2 : IntKind.wrap .i64 (1 + (o.s.size : Int) + o.l.xs.length) = 1 + o.s.size + o.l.xs.length := wrapI64 (by omega) (by omega)
  have hv := valsSize_spec (ext := ext) h o.l.ok
  by_cases hc : (1 + o.s.size : Int) ≤ 1048576
  · simp -implicitDefEqProofs [x338, e1, e2, hc, hv, objSize]
  · simp -implicitDefEqProofs [x338, e1, hc, objSize]
def sizeGo : Int → List Obj → Int
  | n, [] => n
  | n, o :: r => if n ≤ 1048576 then sizeGo (n + objSize o) r else n
theorem objSize_bd (o : Obj) (hw : tObj.wf o) : 1 ≤ objSize o ∧ objSize o ≤ 281474976710658 := by
  have hs : o.s.size ≤ 140737488355328 := hw.2.1
  have hl := o.l.ok.2.1
  unfold objSize
  split <;> omega
theorem objsSize_spec (h : code 380 = some x380) (h' : code 338 = some x338) (h2 : code 339 = some x339) {iv : IV} {xs : List Obj} (hr : Reads tObj iv xs) : callW code ext 339 [.imm iv] [] = some (int64 (sizeGo xs.length xs), []) := by
  have hlen := reads_len hr
  have hb := hr.2.1
  have loop : ∃ e s', den code ext (.loop [0, 3, 4] x339L1) ⟨0, [(0, .imm iv), (3, int64 xs.length), (4, int64 0)], []⟩ = some (e, s') ∧ e ≠ .normal ∧
      (e = .exit 0 ∧ s'.k = 0 ∧ s'.mem = [] ∧ s'.env.get 3 = int64 (sizeGo xs.length xs)) := by
    refine loop_rule (fun n s => ∃ (i : Nat) (m : Int), i + n = xs.length ∧ 0 ≤ m ∧ m ≤ 1000000000000000 ∧ sizeGo xs.length xs = sizeGo m (xs.drop i) ∧ s = ⟨0, [(0, .imm iv), (3, int64 m), (4, int64 (i : Nat))], []⟩) _ ?_ xs.length _ ⟨0, xs.length, by simp, by omega, by omega, by simp, rfl⟩
    rintro n _ ⟨i, m, hi, hm0, hm1, hg, rfl⟩
    by_cases hlt : i < xs.length
    · obtain ⟨row, off, cap, rfl, hc, hcut, hget⟩ := reads_pos hr (List.getElem?_eq_getElem hlt)
      have e1 : IntKind.wrap .i64 ((i : Int) + 1) = (i : Int) + 1 := wrapI64 (by omega) (by omega)
      rw [List.drop_eq_getElem_cons hlt, sizeGo] at hg
      have hw := hr.1 _ (List.getElem_mem hlt)
      generalize xs[i] = o at hget hg hw
      have hbd := objSize_bd o hw
      have hs := objSize_spec (ext := ext) h h' o hw
      simp only [tObj] at hget
      by_cases hc2 : m ≤ 1048576
      · rw [if_pos hc2] at hg
        have e2 : IntKind.wrap .i64 (m + objSize o) = m + objSize o := wrapI64 (by omega) (by omega)
        refine ⟨.normal, ⟨0, [(0, .imm (.slice row off xs.length cap)), (3, int64 (m + objSize o)), (4, int64 ((i : Int) + 1))], []⟩, ?_, .inl ⟨rfl, n - 1, by omega, i + 1, _, by omega, by omega, by omega, hg, rfl⟩⟩
        simp -implicitDefEqProofs [x339L1, hlt, hget, hc2, hs, e1, e2]
      · rw [if_neg hc2] at hg
        refine ⟨.exit 0, ⟨0, [(0, .imm (.slice row off xs.length cap)), (3, int64 m), (4, int64 (i : Int)), (14, avb false)], []⟩, ?_, .inr ⟨by simp, rfl, rfl, rfl, by rw [hg]; simp⟩⟩
        simp -implicitDefEqProofs [x339L1, hlt, hc2]
    · have : ¬ ((i : Int) < xs.length) := by omega
      refine ⟨.exit 0, ⟨0, [(0, .imm iv), (3, int64 m), (4, int64 (i : Int)), (14, avb false)], []⟩, ?_, .inr ⟨by simp, rfl, rfl, rfl, ?_⟩⟩
      · simp -implicitDefEqProofs [x339L1, hlen, this]
      · rw [hg, List.drop_eq_nil_of_le (by omega)]; simp [sizeGo]
  obtain ⟨e, s', h1, _, rfl, h3, h4, h5⟩ := loop
  rw [callW_fun code ext h2]
  simp -implicitDefEqProofs [x339, hlen, h1, h3, h4, h5]
theorem storeSize_spec (h : code 380 = some x380) (h' : code 338 = some x338) (h2 : code 339 = some x339) (h3 : code 361 = some x361) {iv : IV} {xs : List Obj} (hr : Reads tObj iv xs) : callW code ext 361 [.imm iv] [] = some (int64 (sizeGo xs.length xs), []) := by
  rw [callW_fun code ext h3]
  simp -implicitDefEqProofs [x361, objsSize_spec h h' h2 hr]
theorem beyond_one (h : code 303 = some x303) (n : Int) (h0 : 0 ≤ n) (h1 : n ≤ 4611686018427387904) : callW code ext 303 [.imm (.slice [.val (.int .i64 n)] 0 1 (some 1))] [] = some (avb (decide (1048576 < n)), []) := by
  rw [callW_fun code ext h]
  have e1 : IntKind.wrap .i64 n = n := wrapI64 (by omega) (by omega)
  have e2 : IntKind.wrap .i64 1 = 1 := rfl
  by_cases hc : 1048576 < n
  · simp -implicitDefEqProofs [x303, x303L1, den_loop, e1, e2, hc]
  · have hl : ∀ m : Int, den code ext (.loop [0, 3, 4] x303L1) ⟨0, [(0, .imm (.slice [.val (.int .i64 n)] 0 1 (some 1))), (3, int64 m), (4, int64 1)], []⟩ = some (.exit 0, ⟨0, [(0, .imm (.slice [.val (.int .i64 n)] 0 1 (some 1))), (3, int64 m), (4, int64 1), (8, avb false)], []⟩) := by
      intro m
      rw [den_loop]
      simp -implicitDefEqProofs [x303L1]
    have hl2 : den code ext (.loop [0, 3, 4] x303L1) ⟨0, [(0, .imm (.slice [.val (.int .i64 n)] 0 1 (some 1))), (3, int64 0), (4, int64 0)], []⟩ = some (.exit 0, ⟨0, [(0, .imm (.slice [.val (.int .i64 n)] 0 1 (some 1))), (3, int64 n), (4, int64 1), (8, avb false)], []⟩) := by
      rw [den_loop]
      have hb : den code ext x303L1 (St.tidy ⟨0, [(0, .imm (.slice [.val (.int .i64 n)] 0 1 (some 1))), (3, int64 0), (4, int64 0)], []⟩ [0, 3, 4]) = some (.normal, ⟨0, [(0, .imm (.slice [.val (.int .i64 n)] 0 1 (some 1))), (3, int64 n), (4, int64 1)], []⟩) := by
        simp -implicitDefEqProofs [x303L1, e1, e2, hc]
      rw [hb]
      simp only [andThen]
      exact hl n
    simp -implicitDefEqProofs [x303, hl2, hc]
end
end Go.EX

