import Derived.Test.YtbomedbbgfcncaaDoorT11
set_option maxHeartbeats 4000000
set_option linter.unusedVariables false
set_option linter.unusedSimpArgs false
namespace Go.EX
section
variable {code : Nat → Option XFun} {ext : Calls'}
theorem rvalue_no (h : code 502 = some x502) (h501 : code 501 = some x501) (h100 : code 100 = some x100) {sv : IV} {S : List Obj} (hr : Reads tObj sv S) (v : Val) (hv : tVal.wf v) (inn : Int) (c : ByteArray) (l2 : Bool) (x : ByteArray)
    (hp : pieceOf S (decide (8 < inn)) v = some x) (hw : callW code ext 98 [.optr 0 0, strV x] (rNil sv false) = some (.tup [], rOne sv c l2)) (hfn : ∀ o ∈ S, (tInt .i64).wf o.fn) (hsz : x.size ≤ 9223372036854775807) :
    callW code ext 100 [.optr 0 0, .agg [.imm (.val (.int .u8 v.k)), int64 v.n], int64 inn] (rNil sv false) = some (.tup [], rOne sv c l2) := by
  have hl := leadsR_spec (ext := ext) h hr v
  have hfm := digits_spec (ext := ext) h501 v.n hv.2
  rw [callW_fun code ext h100]
  simp only [rNil, rOne, rTwo] at hw ⊢
  obtain ⟨vk, vn⟩ := v
  simp only at hl hfm hp ⊢
  unfold pieceOf objOf at hp
  unfold leadR at hl
  by_cases k0 : vk = 0
  · subst k0
    simp at hp; subst hp
    simp -implicitDefEqProofs [x100, hl, hw]
  by_cases k1 : vk = 1
  · subst k1
    by_cases hn : vn = 1
    · subst hn
      simp at hp; subst hp
      simp -implicitDefEqProofs [x100, hl, hw]
    · simp [hn] at hp; subst hp
      simp -implicitDefEqProofs [x100, hl, hw, hn]
  by_cases k2 : vk = 2
  · subst k2
    simp at hp; subst hp
    simp -implicitDefEqProofs [x100, hl, hw, hfm]
  cases hle : leadsOf S ⟨vk, vn⟩ with
  | none =>
    rw [hle] at hl
    simp [k0, k1, k2, hle] at hp; subst hp
    simp -implicitDefEqProofs [x100, hl, hw, k0, k1, k2]
  | some k =>
    rw [hle] at hl
    dsimp only at hl
    obtain ⟨hks, _, _, _, o, hso, _⟩ := leadsOf_some hle
    obtain ⟨row, off, cap, rfl, hcp, hcut, hget⟩ := reads_pos hr hso
    simp only [tObj] at hget
    have hof := hfn o (List.mem_of_getElem? hso)
    have hit := digits_spec (ext := ext) h501 o.fn hof
    have g0 : row[off + k * 5]? = some (.val (.int .u8 o.k)) := by simpa using cut_get hget 0 (by omega)
    have g1 : row[off + k * 5 + 1]? = some (.val (.string o.s)) := cut_get hget 1 (by omega)
    have g4 : row[off + k * 5 + 4]? = some (.val (.int .i64 o.fn)) := cut_get hget 4 (by omega)
    have hk0 : ¬ ((k : Nat) : Int) < 0 := by omega
    have hk1 : ((k : Nat) : Int) < S.length := by omega
    simp only [hle, Option.bind_some, hso, k0, k1, k2, if_false] at hp
    by_cases k7 : vk = 7
    · subst k7
      simp at hp; subst hp
      simp -implicitDefEqProofs [x100, hl, hw, hk0]
    by_cases k3 : vk = 3
    · subst k3
      simp at hp; subst hp
      simp -implicitDefEqProofs [x100, hl, hw, g1, hk0, hk1, hks]
    by_cases k6 : vk = 6
    · subst k6
      simp at hp; subst hp
      have hs1 : fnT.size + (dig o.fn).size ≤ 9223372036854775807 := by rw [← size_append']; exact hsz
      simp -implicitDefEqProofs [x100, hl, hw, g4, hit, hs1, hk0, hk1, hks]
    by_cases hd : (8 : Int) < inn
    · simp [k7, k3, k6, hd] at hp; subst hp
      simp -implicitDefEqProofs [x100, hl, hw, k0, k1, k2, k7, k3, k6, hd, hk0]
    · simp [k7, k3, k6, hd] at hp
theorem rvalueRow_no (h : code 502 = some x502) (h100 : code 100 = some x100) {sv : IV} {S : List Obj} (hr : Reads tObj sv S) (v : Val) (inn : Int) (c : ByteArray) (l2 : Bool) (hd : ¬ (8 < inn)) (hk : v.k ≠ 0 ∧ v.k ≠ 1 ∧ v.k ≠ 2 ∧ v.k ≠ 7 ∧ v.k ≠ 3 ∧ v.k ≠ 6) {o : Obj} (ho : objOf S v = some o)
    (hw : callW code ext 99 [.optr 0 0, .agg [.imm (.val (.int .u8 o.k)), strV o.s, .imm o.l.iv, int64 o.room, int64 o.fn], int64 inn] (rNil sv false) = some (.tup [], rOne sv c l2)) :
    callW code ext 100 [.optr 0 0, .agg [.imm (.val (.int .u8 v.k)), int64 v.n], int64 inn] (rNil sv false) = some (.tup [], rOne sv c l2) := by
  obtain ⟨k0, k1, k2, k7, k3, k6⟩ := hk
  have hl := leadsR_spec (ext := ext) h hr v
  rw [callW_fun code ext h100]
  simp only [rNil, rOne, rTwo] at hw ⊢
  obtain ⟨vk, vn⟩ := v
  simp only at hl ⊢ k0 k1 k2 k7 k3 k6
  unfold objOf at ho
  unfold leadR at hl
  cases hle : leadsOf S ⟨vk, vn⟩ with
  | none => simp [hle] at ho
  | some k =>
    rw [hle] at hl ho
    dsimp only at hl
    rw [Option.bind_some] at ho
    have hks := (List.getElem?_eq_some_iff.1 ho).1
    obtain ⟨row, off, cap, rfl, hcp, hcut, hget⟩ := reads_pos hr ho
    simp only [tObj] at hget
    have hk0 : ¬ ((k : Nat) : Int) < 0 := by omega
    have hk1 : ((k : Nat) : Int) < S.length := by omega
    simp -implicitDefEqProofs [x100, hl, hw, hget, k0, k1, k2, k7, k3, k6, hd, hk0, hk1, hks]
end
end Go.EX

