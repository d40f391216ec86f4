import Derived.Test.YtfmpeoickjggiaaGreatDoorL9a
set_option maxRecDepth 100000
set_option linter.unusedVariables false
set_option linter.unusedSimpArgs false
namespace Go.EX
def telMem (s : DS) (mv : Bool) : Mem := [.rich [.osl 1 0 1 s.told.length none, avb (!s.ok)], .flat (rowI s.told) mv]
theorem ref_tell (s : DS) (mv : Bool) (p : Nat) (d : Int) (hp : p < s.told.length) (hd : 0 ≤ d) : run9 145 [.optr 0 0, int64 p, int64 d] (telMem s mv) = some (.tup [], telMem (tellD s p d) mv) := by
  obtain ⟨told, todo, ok⟩ := s
  simp only at hp
  have hv := List.getElem?_eq_getElem hp
  have hlen := rowI_len told
  have hget := rowI_get told p
  have hset := rowI_set told p d
  generalize told[p] = v at hv
  rw [hv] at hget
  simp only [Option.map_some] at hget
  have hpi : (p : Int) < told.length := by omega
  have hfit : p + 1 ≤ (rowI told).length := by omega
  unfold run9
  rw [callW_fun code9 (extInsert 766) (rfl : code9 145 = some x145)]
  by_cases h1 : v < 0
  · have h1' : ¬ 0 ≤ v := by omega
    have ht : tellD ⟨told, todo, ok⟩ p d = ⟨told.set p d, insD todo p, ok⟩ := by simp [tellD, hv, h1]
    rw [ht]
    simp only [telMem, List.length_set]
    generalize rowI (told.set p d) = R2 at *
    generalize rowI told = R at *
    simp -implicitDefEqProofs [x145, hp, hpi, hget, hset, h1, h1', hfit, setAll]
  · have h1' : 0 ≤ v := by omega
    by_cases h2 : v = d
    · subst h2
      have hs2 : told.set p v = told := by
        refine List.ext_getElem? fun j => ?_
        rw [List.getElem?_set]
        split
        · rename_i e; subst e; exact hv.symm
        · rfl
      have ht : tellD ⟨told, todo, ok⟩ p v = ⟨told, todo, ok⟩ := by simp [tellD, hv, h1]
      rw [ht]
      rw [hs2] at hset
      simp only [telMem]
      generalize rowI told = R at *
      simp -implicitDefEqProofs [x145, hp, hpi, hget, hset, h1, h1', hfit, setAll]
    · have ht : tellD ⟨told, todo, ok⟩ p d = ⟨told, todo, false⟩ := by simp [tellD, hv, h1, h2]
      rw [ht]
      simp only [telMem]
      generalize rowI told = R at *
      simp -implicitDefEqProofs [x145, hp, hpi, hget, hset, h1, h1', h2, hfit, setAll]
theorem ref_takes {np : Nat} {f : Fn} {pc : Nat} {i : Ins} (h : numOk np f pc i = true) : run9 536 [.agg [.imm (.val (.int .u8 i.op)), int64 i.a]] [] = some (.tup [int64 ((qOf i.op).2.1 + (qOf i.op).2.2.2 * i.a), int64 (qOf i.op).2.2.1], []) := by
  have hop := numOk_op h
  have htm := numOk_tm h
  obtain ⟨op, a⟩ := i
  simp only at hop htm
  obtain ⟨k, rfl⟩ : ∃ k : Nat, op = k := ⟨op.toNat, by omega⟩
  have hk : k = 1 ∨ k = 2 ∨ k = 3 ∨ k = 4 ∨ k = 5 ∨ k = 6 ∨ k = 7 ∨ k = 8 ∨ k = 9 ∨ k = 10 ∨ k = 11 ∨ k = 12 ∨ k = 13 ∨ k = 14 ∨ k = 15 ∨ k = 16 ∨ k = 17 ∨ k = 18 ∨ k = 19 ∨ k = 20 ∨ k = 21 ∨ k = 22 ∨ k = 23 ∨ k = 24 ∨ k = 25 ∨ k = 26 ∨ k = 27 ∨ k = 28 ∨ k = 29 ∨ k = 30 := by omega
  unfold run9
  rw [callW_fun code9 (extInsert 766) (rfl : code9 536 = some x536)]
  rcases hk with rfl | rfl | rfl | rfl | rfl | rfl | rfl | rfl | rfl | rfl | rfl | rfl | rfl | rfl | rfl | rfl | rfl | rfl | rfl | rfl | rfl | rfl | rfl | rfl | rfl | rfl | rfl | rfl | rfl | rfl
  · simp -implicitDefEqProofs [x536, qOf, opRow, rowTab]
  · simp -implicitDefEqProofs [x536, qOf, opRow, rowTab]
  · simp -implicitDefEqProofs [x536, qOf, opRow, rowTab]
  · simp -implicitDefEqProofs [x536, qOf, opRow, rowTab]
  · simp -implicitDefEqProofs [x536, qOf, opRow, rowTab]
  · simp -implicitDefEqProofs [x536, qOf, opRow, rowTab]
  · simp -implicitDefEqProofs [x536, qOf, opRow, rowTab]
  · simp -implicitDefEqProofs [x536, qOf, opRow, rowTab]
  · simp -implicitDefEqProofs [x536, qOf, opRow, rowTab]
  · simp -implicitDefEqProofs [x536, qOf, opRow, rowTab]
  · simp -implicitDefEqProofs [x536, qOf, opRow, rowTab]
  · simp -implicitDefEqProofs [x536, qOf, opRow, rowTab]
  · simp -implicitDefEqProofs [x536, qOf, opRow, rowTab]
  · simp -implicitDefEqProofs [x536, qOf, opRow, rowTab]
  · simp -implicitDefEqProofs [x536, qOf, opRow, rowTab]
  · simp -implicitDefEqProofs [x536, qOf, opRow, rowTab]
  · simp -implicitDefEqProofs [x536, qOf, opRow, rowTab]
  · simp -implicitDefEqProofs [x536, qOf, opRow, rowTab]
  · simp -implicitDefEqProofs [x536, qOf, opRow, rowTab]
  · simp -implicitDefEqProofs [x536, qOf, opRow, rowTab]
  · simp -implicitDefEqProofs [x536, qOf, opRow, rowTab]
  · have hb : 0 ≤ a ∧ a ≤ 256 := htm.resolve_left (by decide)
    have e1 : IntKind.wrap .i64 (a) = a := wrapI64 (by omega) (by omega)
    simp -implicitDefEqProofs [x536, qOf, opRow, rowTab, e1]
  · have hb : 0 ≤ a ∧ a ≤ 256 := htm.resolve_left (by decide)
    have e1 : IntKind.wrap .i64 (2 * a) = 2 * a := wrapI64 (by omega) (by omega)
    simp -implicitDefEqProofs [x536, qOf, opRow, rowTab, e1]
  · simp -implicitDefEqProofs [x536, qOf, opRow, rowTab]
  · simp -implicitDefEqProofs [x536, qOf, opRow, rowTab]
  · simp -implicitDefEqProofs [x536, qOf, opRow, rowTab]
  · have hb : 0 ≤ a ∧ a ≤ 256 := htm.resolve_left (by decide)
    have e1 : IntKind.wrap .i64 (a + 1) = a + 1 := wrapI64 (by omega) (by omega)
    have e2 : 1 + a = a + 1 := by omega
    simp -implicitDefEqProofs [x536, qOf, opRow, rowTab, e1, e2]
  · simp -implicitDefEqProofs [x536, qOf, opRow, rowTab]
  · simp -implicitDefEqProofs [x536, qOf, opRow, rowTab]
  · simp -implicitDefEqProofs [x536, qOf, opRow, rowTab]
theorem ref_nexts {np : Nat} {f : Fn} (hf : FnOk np f) {pc : Nat} {i : Ins} (hi : f.code.xs[pc]? = some i) :
    (nexts i pc = [] ∧ run9 535 [fnAV f, int64 pc] [] = some (nilS, [])) ∨
    (nexts i pc ≠ [] ∧ run9 535 [fnAV f, int64 pc] [] = some (.osl 0 0 1 (nexts i pc).length (some (nexts i pc).length), [.flat (rowI ((nexts i pc).map fun (q : Nat) => (q : Int))) false])) := by
  have ha := fnOk_a hf hi
  have hlt := (List.getElem?_eq_some_iff.1 hi).1
  have hlti : (pc : Int) < f.code.xs.length := by omega
  have hb := hf.few
  obtain ⟨row, off, cap, hiv, hc, hcut, hget⟩ := reads_pos f.code.ok hi
  simp only [tIns] at hget
  have e1 : IntKind.wrap .i64 ((pc : Int) + 1) = (pc : Int) + 1 := wrapI64 (by omega) (by omega)
  obtain ⟨op, a⟩ := i
  simp only at ha hget
  unfold run9
  rw [callW_fun code9 (extInsert 766) (rfl : code9 535 = some x535)]
  simp only [fnAV, hiv]
  by_cases h28 : op = 28
  · refine .inl ⟨by simp [nexts, h28], ?_⟩
    simp -implicitDefEqProofs [x535, hget, hlt, hlti, h28]
  · by_cases h29 : op = 29
    · refine .inl ⟨by simp [nexts, h29], ?_⟩
      simp -implicitDefEqProofs [x535, hget, hlt, hlti, h28, h29]
    · by_cases h19 : op = 19
      · have h0 : ((a.toNat : Nat) : Int) = a := by have := ha (by omega); omega
        refine .inr ⟨by simp [nexts, h19], ?_⟩
        simp -implicitDefEqProofs [x535, hget, hlt, hlti, h19, nexts, rowI_cons, h0, mkObj, rowI, Ty.row, tInt]
      · by_cases h21 : op = 21
        · have h0 : ((a.toNat : Nat) : Int) = a := by have := ha (by omega); omega
          refine .inr ⟨by simp [nexts, h21], ?_⟩
          simp -implicitDefEqProofs [x535, hget, hlt, hlti, h21, nexts, rowI_cons, h0, mkObj, rowI, Ty.row, tInt]
        · by_cases h20 : op = 20
          · have h0 : ((a.toNat : Nat) : Int) = a := by have := ha (by omega); omega
            refine .inr ⟨by simp [nexts, h20], ?_⟩
            simp -implicitDefEqProofs [x535, hget, hlt, hlti, h20, nexts, rowI_cons, h0, e1, mkObj, rowI, Ty.row, tInt]
          · refine .inr ⟨by simp [nexts, h28, h29, h19, h21, h20], ?_⟩
            simp -implicitDefEqProofs [x535, hget, hlt, hlti, h28, h29, h19, h21, h20, nexts, rowI_cons, e1, mkObj, rowI, Ty.row, tInt]
end Go.EX

