import Derived.Test.YtbomedbbgfcncaaDoorS4b
set_option linter.unusedVariables false
set_option linter.unusedSimpArgs false
namespace Go.EX
section
variable {code : Nat → Option XFun} {ext : Calls'}
theorem cut_front {α : Type} (t : Ty α) (xs ys : List α) : cut (t.row (xs ++ ys)) 0 (xs.length * t.sz) = some (t.row xs) := by
  rw [row_append]
  refine cut_mk ?_ (row_len t xs)
  rw [List.drop_zero, ← row_len t xs, List.take_left]
def twinIV {α : Type} (t : Ty α) (sp : α) (xs : List α) : IV := .slice (t.row (xs ++ [sp])) 0 xs.length (some (xs.length + 1))
theorem twinIV_reads {α : Type} (t : Ty α) (sp : α) {iv : IV} {xs : List α} (h : Reads t iv xs) : Reads t (twinIV t sp xs) xs :=
  ⟨h.1, h.2.1, .inr ⟨_, 0, _, rfl, fun c hc => by cases hc; omega, cut_front t xs [sp]⟩⟩
def twinVals (l : Sl tVal) : Sl tVal := ⟨twinIV tVal spVal l.xs, l.xs, twinIV_reads tVal spVal l.ok⟩
def twinObj (o : Obj) : Obj := { o with l := twinVals o.l }
def spObj : Obj := ⟨0, ⟨#[115, 112, 97, 114, 101]⟩, ⟨.val (.slice none 0 0), [], ⟨by simp, by simp, .inl ⟨rfl, rfl⟩⟩⟩, 0, 0⟩
def zObj : Obj := ⟨0, .empty, ⟨.val (.slice none 0 0), [], ⟨by simp, by simp, .inl ⟨rfl, rfl⟩⟩⟩, 0, 0⟩
theorem twinObj_spec (h : code 379 = some x379) (h' : code 372 = some x372) (o : Obj) (hb : o.l.xs.length ≤ 1000000000) :
    callW code ext 372 [.agg [.imm (.val (.int .u8 o.k)), .imm (.val (.string o.s)), .imm o.l.iv, int64 o.room, int64 o.fn]] [] =
      some (.agg [.imm (.val (.int .u8 o.k)), .imm (.val (.string o.s)), .imm (twinIV tVal spVal o.l.xs), int64 o.room, int64 o.fn], []) := by
  rw [callW_fun code ext h']
  have ht := twinVals_spec (ext := ext) h o.l.ok hb
  simp -implicitDefEqProofs [x372, ht, twinIV]
theorem twinObjs_loop (h : code 379 = some x379) (h' : code 372 = some x372) (iv : IV) (xs : List Obj) (hr : Reads tObj iv xs) (hb : ∀ o ∈ xs, o.l.xs.length ≤ 5000) {s : St}
    (hst : s.tidy [0, 3, 4] = ⟨0, [(0, .imm iv), (3, .osl 0 0 5 0 (some (xs.length + 1))), (4, int64 0)], [.flat (tObj.part zObj [] (xs.length + 1)) false]⟩) :
    ∃ e s', den code ext (.loop [0, 3, 4] x373L1) s = some (e, s') ∧ e ≠ .normal ∧
      (e = .exit 0 ∧ s' = ⟨0, [(0, .imm iv), (3, .osl 0 0 5 xs.length (some (xs.length + 1))), (4, int64 xs.length), (12, avb false)], [.flat (tObj.part zObj (xs.map twinObj) 1) false]⟩) := by
  refine loop_rule (fun n s => ∃ i, i + n = xs.length ∧ s.tidy [0, 3, 4] = ⟨0, [(0, .imm iv), (3, .osl 0 0 5 i (some (xs.length + 1))), (4, int64 (i : Nat))], [.flat (tObj.part zObj ((xs.map twinObj).take i) (n + 1)) false]⟩) _ ?_ xs.length _ ⟨0, by simp, by simpa using hst⟩
  clear hst
  rintro n s ⟨i, hi, hst⟩
  rw [hst]
  have hlen := reads_len hr
  have hbl := hr.2.1
  by_cases hlt : i < xs.length
  · obtain ⟨row, off, cap, rfl, hc, hcut, hget⟩ := reads_pos hr (List.getElem?_eq_getElem hlt)
    have e1 : IntKind.wrap .i64 ((i : Int) + 1) = (i : Int) + 1 := wrapI64 (by omega) (by omega)
    obtain ⟨m, rfl⟩ : ∃ m, n = m + 1 := ⟨n - 1, by omega⟩
    have hlt' : (i : Int) < xs.length := by omega
    have hob := hb _ (List.getElem_mem hlt)
    have htk : xs.take (i + 1) = xs.take i ++ [xs[i]] := by rw [List.take_add_one, List.getElem?_eq_getElem hlt]; rfl
    have hti : ((xs.map twinObj).take i).length = i := by rw [List.length_take, List.length_map]; omega
    have hset := part_set tObj (by decide) zObj ((xs.map twinObj).take i) (m + 1) (twinObj xs[i])
    rw [hti] at hset
    have hset2 : (xs.map twinObj).take i ++ [twinObj xs[i]] = (xs.map twinObj).take (i + 1) := by rw [← List.map_take, ← List.map_take, htk, List.map_append]; rfl
    rw [hset2] at hset
    have hfit : (i + 1) * 5 ≤ (tObj.part zObj ((xs.map twinObj).take i) (m + 1 + 1)).length := by
      rw [part_len, hti]; exact Nat.mul_le_mul_right _ (by omega)
    have hto := twinObj_spec (ext := ext) h h' xs[i] (by omega)
    generalize xs[i] = o at hget hto hset
    simp only [tObj] at hget
    have henc : tObj.enc (twinObj o) = [.val (.int .u8 o.k), .val (.string o.s), twinIV tVal spVal o.l.xs, .val (.int .i64 o.room), .val (.int .i64 o.fn)] := rfl
    rw [henc, show tObj.sz = 5 from rfl] at hset
    refine ⟨.normal, ⟨0, [(0, .imm (.slice row off xs.length cap)), (3, .osl 0 0 5 (i + 1) (some (xs.length + 1))), (4, int64 ((i : Int) + 1))], [.flat (tObj.part zObj ((xs.map twinObj).take (i + 1)) (m + 1)) false, .flat [.val (.int .u8 o.k), .val (.string o.s), twinIV tVal spVal o.l.xs, .val (.int .i64 o.room), .val (.int .i64 o.fn)] false]⟩, ?_, .inl ⟨rfl, m, by omega, i + 1, by omega, ?_⟩⟩
    · simp -implicitDefEqProofs [x373L1, hlt', hlt, hget, hto, exAppendX, exAppend, elems, e1, hset, hfit, show i + 1 ≤ xs.length + 1 by omega]
    · simp -implicitDefEqProofs
  · have : i = xs.length := by omega
    subst this
    refine ⟨.exit 0, ⟨0, [(0, .imm iv), (3, .osl 0 0 5 xs.length (some (xs.length + 1))), (4, int64 xs.length), (12, avb false)], [.flat (tObj.part zObj (xs.map twinObj) 1) false]⟩, ?_, .inr ⟨by simp, rfl, rfl⟩⟩
    have : n = 0 := by omega
    subst this
    simp -implicitDefEqProofs [x373L1, hlen]
    rw [List.take_of_length_le (by simp)]
theorem twinStore_spec (h : code 379 = some x379) (h' : code 372 = some x372) (h2 : code 373 = some x373) (h3 : code 377 = some x377) {iv : IV} {xs : List Obj} (hr : Reads tObj iv xs) (hb : ∀ o ∈ xs, o.l.xs.length ≤ 5000) (hl : xs.length ≤ 1048576) :
    callW code ext 377 [.imm iv] [] = some (.osl 0 0 5 xs.length (some (xs.length + 1)), [.flat (tObj.row (xs.map twinObj ++ [spObj])) false]) := by
  have hcp : copies (xs.length + 1) [IV.val (.int .u8 0), .val (.string .empty), .val (.slice none 0 0), .val (.int .i64 0), .val (.int .i64 0)] = tObj.part zObj [] (xs.length + 1) := copies_flat (t := tObj) (xs.length + 1) zObj
  have hlen := reads_len hr
  obtain ⟨e, s', h1, _, rfl, rfl⟩ := twinObjs_loop (ext := ext) h h' iv xs hr hb (s := ⟨0, [(0, .imm iv), (3, .osl 0 0 5 0 (some (xs.length + 1))), (4, int64 0)], [.flat (tObj.part zObj [] (xs.length + 1)) false]⟩) (by simp -implicitDefEqProofs)
  have e1 : IntKind.wrap .i64 ((xs.length : Int) + 1) = (xs.length : Int) + 1 := wrapI64 (by omega) (by omega)
  have e2 : (0 : Int) ≤ (xs.length : Int) + 1 := by omega
  have e3 : (64 : Int) * ((xs.length : Int) + 1) ≤ 281474976710656 := by omega
  have e4 : (xs.length : Int) + 1 ≤ 9223372036854775807 := by omega
  have e6 : (xs.length : Int) ≤ (xs.length : Int) + 1 := by omega
  have e5 : ((xs.length : Int) + 1).toNat = xs.length + 1 := by omega
  have hset := part_set tObj (by decide) zObj (xs.map twinObj) 0 spObj
  have hfin : tObj.part zObj (xs.map twinObj ++ [spObj]) 0 = tObj.row (xs.map twinObj ++ [spObj]) := by unfold Ty.part; simp
  have hfit : (xs.length + 1) * 5 ≤ (tObj.part zObj (xs.map twinObj) (0 + 1)).length := by rw [part_len, List.length_map]; exact Nat.le_refl _
  rw [hfin, List.length_map] at hset
  simp only [Nat.zero_add] at hset hfit
  have henc : tObj.enc spObj = [.val (.int .u8 0), .val (.string ⟨#[115, 112, 97, 114, 101]⟩), .val (.slice none 0 0), .val (.int .i64 0), .val (.int .i64 0)] := rfl
  rw [henc, show tObj.sz = 5 from rfl] at hset
  have hobjs : callW code ext 373 [.imm iv] [] = some (.osl 0 0 5 xs.length (some (xs.length + 1)), [.flat (tObj.row (xs.map twinObj ++ [spObj])) false]) := by
    rw [callW_fun code ext h2]
    simp -implicitDefEqProofs [x373, hlen, e1, e2, e3, e4, e5, e6, hcp, h1, exAppendX, exAppend, elems, hset, hfit, exSlice]
  rw [callW_fun code ext h3]
  have hown : (tObj.row (xs.map twinObj ++ [spObj])).all IV.plain = false ∨ (tObj.row (xs.map twinObj ++ [spObj])).all IV.plain = true := by cases (tObj.row (xs.map twinObj ++ [spObj])).all IV.plain <;> simp
  simp -implicitDefEqProofs [x377, hobjs]
end
end Go.EX

