import Derived.Test.YtbomedbbgfcncaaDoorS4c
set_option linter.unusedVariables false
set_option linter.unusedSimpArgs false
namespace Go.EX
section
variable {code : Nat → Option XFun} {ext : Calls'}
theorem leftVals_spec (h : code 336 = some x336) {iv : IV} {xs : List Val} (hr : Reads tVal iv xs) : callW code ext 336 [.imm (twinIV tVal spVal xs), .imm iv] [] = some (avb true, []) := by
  have hlen := reads_len hr
  have hb := hr.2.1
  have loop : ∃ e s', den code ext (.loop [0, 1, 5] x336L1) ⟨0, [(0, .imm (twinIV tVal spVal xs)), (1, .imm iv), (5, int64 0)], []⟩ = some (e, s') ∧ e ≠ .normal ∧
      (e = .exit 0 ∧ s' = ⟨0, [(0, .imm (twinIV tVal spVal xs)), (1, .imm iv), (5, int64 xs.length), (22, avb false)], []⟩) := by
    refine loop_rule (fun n s => ∃ (i : Nat), i + n = xs.length ∧ s = ⟨0, [(0, .imm (twinIV tVal spVal xs)), (1, .imm iv), (5, int64 (i : Nat))], []⟩) _ ?_ xs.length _ ⟨0, by simp, rfl⟩
    rintro n _ ⟨i, hi, rfl⟩
    by_cases hlt : i < xs.length
    · obtain ⟨row, off, cap, rfl, hc, hcut, hget⟩ := reads_pos hr (List.getElem?_eq_getElem hlt)
      have e1 : IntKind.wrap .i64 ((i : Int) + 1) = (i : Int) + 1 := wrapI64 (by omega) (by omega)
      have hget2 := flat_elem (t := tVal) (xs := xs ++ [spVal]) (i := i) (x := xs[i]) (by rw [List.getElem?_append_left hlt]; exact List.getElem?_eq_getElem hlt)
      generalize xs[i] = v at hget hget2
      simp only [tVal] at hget
      rw [show tVal.enc v = [.val (.int .u8 v.k), .val (.int .i64 v.n)] from rfl, show tVal.sz = 2 from rfl] at hget2
      refine ⟨.normal, ⟨0, [(0, .imm (twinIV tVal spVal xs)), (1, .imm (.slice row off xs.length cap)), (5, int64 ((i : Int) + 1))], []⟩, ?_, .inl ⟨rfl, n - 1, by omega, i + 1, by omega, rfl⟩⟩
      simp -implicitDefEqProofs [x336L1, hlt, hget, hget2, e1, twinIV]
    · have : i = xs.length := by omega
      subst this
      refine ⟨.exit 0, _, ?_, .inr ⟨by simp, rfl, rfl⟩⟩
      simp -implicitDefEqProofs [x336L1, hlen]
  obtain ⟨e, s', h1, _, rfl, rfl⟩ := loop
  rw [callW_fun code ext h]
  have e1 : IntKind.wrap .i64 ((xs.length : Int) + 1) = (xs.length : Int) + 1 := wrapI64 (by omega) (by omega)
  have e2 : (0 : Int) ≤ (xs.length : Int) + 1 := by omega
  have e5 : ((xs.length : Int) + 1).toNat = xs.length + 1 := by omega
  have e6 : (xs.length : Int) < (xs.length : Int) + 1 := by omega
  have e7 : ¬ ((xs.length : Int) + 1 ≤ (xs.length : Int)) := by omega
  have hget2 := flat_elem (t := tVal) (xs := xs ++ [spVal]) (i := xs.length) (x := spVal) (by simp)
  rw [show tVal.enc spVal = [.val (.int .u8 0), .val (.int .i64 7777)] from rfl, show tVal.sz = 2 from rfl] at hget2
  simp only [twinIV] at h1 ⊢
  simp -implicitDefEqProofs [x336, hlen, h1, e1, e2, e5, e6, e7, exSlice, hget2]
theorem leftObj_spec (h : code 336 = some x336) (h' : code 329 = some x329) (o : Obj) :
    callW code ext 329 [.agg [.imm (.val (.int .u8 o.k)), .imm (.val (.string o.s)), .imm (twinIV tVal spVal o.l.xs), int64 o.room, int64 o.fn], .agg [.imm (.val (.int .u8 o.k)), .imm (.val (.string o.s)), .imm o.l.iv, int64 o.room, int64 o.fn]] [] = some (avb true, []) := by
  rw [callW_fun code ext h']
  have ht := leftVals_spec (ext := ext) h o.l.ok
  simp -implicitDefEqProofs [x329, ht]
theorem leftStore_spec (h : code 336 = some x336) (h' : code 329 = some x329) (h2 : code 330 = some x330) (h3 : code 334 = some x334) {iv : IV} {xs : List Obj} (hr : Reads tObj iv xs) :
    callW code ext 334 [.imm (.slice (tObj.row (xs.map twinObj ++ [spObj])) 0 xs.length (some (xs.length + 1))), .imm iv] [] = some (avb true, []) := by
  have hlen := reads_len hr
  have hb := hr.2.1
  generalize hT : IV.slice (tObj.row (xs.map twinObj ++ [spObj])) 0 xs.length (some (xs.length + 1)) = T
  have loop : ∃ e s', den code ext (.loop [0, 1, 5] x330L1) ⟨0, [(0, .imm T), (1, .imm iv), (5, int64 0)], []⟩ = some (e, s') ∧ e ≠ .normal ∧
      (e = .exit 0 ∧ s' = ⟨0, [(0, .imm T), (1, .imm iv), (5, int64 xs.length), (22, avb false)], []⟩) := by
    refine loop_rule (fun n s => ∃ (i : Nat), i + n = xs.length ∧ s = ⟨0, [(0, .imm T), (1, .imm iv), (5, int64 (i : Nat))], []⟩) _ ?_ xs.length _ ⟨0, by simp, rfl⟩
    rintro n _ ⟨i, hi, rfl⟩
    by_cases hlt : i < xs.length
    · obtain ⟨row, off, cap, rfl, hc, hcut, hget⟩ := reads_pos hr (List.getElem?_eq_getElem hlt)
      have e1 : IntKind.wrap .i64 ((i : Int) + 1) = (i : Int) + 1 := wrapI64 (by omega) (by omega)
      have hget2 := flat_elem (t := tObj) (xs := xs.map twinObj ++ [spObj]) (i := i) (x := twinObj xs[i]) (by rw [List.getElem?_append_left (by simpa using hlt), List.getElem?_map, List.getElem?_eq_getElem hlt]; rfl)
      have hlo := leftObj_spec (ext := ext) h h' xs[i]
      generalize xs[i] = o at hget hget2 hlo
      simp only [tObj] at hget
      rw [show tObj.enc (twinObj o) = [.val (.int .u8 o.k), .val (.string o.s), twinIV tVal spVal o.l.xs, .val (.int .i64 o.room), .val (.int .i64 o.fn)] from rfl, show tObj.sz = 5 from rfl] at hget2
      refine ⟨.normal, ⟨0, [(0, .imm T), (1, .imm (.slice row off xs.length cap)), (5, int64 ((i : Int) + 1))], []⟩, ?_, .inl ⟨rfl, n - 1, by omega, i + 1, by omega, rfl⟩⟩
      subst hT
      simp -implicitDefEqProofs [x330L1, hlt, hget, hget2, e1, hlo]
    · have : i = xs.length := by omega
      subst this
      refine ⟨.exit 0, _, ?_, .inr ⟨by simp, rfl, rfl⟩⟩
      simp -implicitDefEqProofs [x330L1, hlen]
  obtain ⟨e, s', h1, _, rfl, rfl⟩ := loop
  have e1 : IntKind.wrap .i64 ((xs.length : Int) + 1) = (xs.length : Int) + 1 := wrapI64 (by omega) (by omega)
  have e2 : (0 : Int) ≤ (xs.length : Int) + 1 := by omega
  have e5 : ((xs.length : Int) + 1).toNat = xs.length + 1 := by omega
  have e6 : (xs.length : Int) < (xs.length : Int) + 1 := by omega
  have e7 : ¬ ((xs.length : Int) + 1 ≤ (xs.length : Int)) := by omega
  have hget2 := flat_elem (t := tObj) (xs := xs.map twinObj ++ [spObj]) (i := xs.length) (x := spObj) (by rw [List.getElem?_append_right (by simp)]; simp)
  rw [show tObj.enc spObj = [.val (.int .u8 0), .val (.string ⟨#[115, 112, 97, 114, 101]⟩), .val (.slice none 0 0), .val (.int .i64 0), .val (.int .i64 0)] from rfl, show tObj.sz = 5 from rfl] at hget2
  have hobjs : callW code ext 330 [.imm T, .imm iv] [] = some (avb true, []) := by
    rw [callW_fun code ext h2]
    subst hT
    simp -implicitDefEqProofs [x330, hlen, h1, e1, e2, e5, e6, e7, exSlice, hget2]
  rw [callW_fun code ext h3]
  simp -implicitDefEqProofs [x334, hobjs]
end
end Go.EX

