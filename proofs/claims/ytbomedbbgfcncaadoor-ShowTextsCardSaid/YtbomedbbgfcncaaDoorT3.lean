import Derived.Test.YtbomedbbgfcncaaDoorT2
set_option maxHeartbeats 4000000
set_option linter.unusedVariables false
set_option linter.unusedSimpArgs false
namespace Go.EX
section
variable {code : Nat → Option XFun} {ext : Calls'}
theorem format_of (c : TextCode code ext) (n : Int) (hn : (tInt .i64).wf n) : callW code ext 785 [int64 n, int64 10] [] = some (strV (dig n), []) := by
  obtain ⟨h0, h1⟩ := wfI64.1 hn
  have h : callW code ext 708 [int64 n, int64 10] [] = some (strV (dig n), []) := by
    rw [callW_ext code ext c.n708 (by decide), c.e708]
    simp [extItoa, h0, h1, dig]
  rw [callW_fun code ext c.c785]
  simp -implicitDefEqProofs [x785, h]
theorem itoa_of (c : TextCode code ext) (n : Int) (hn : (tInt .i64).wf n) : callW code ext 786 [int64 n] [] = some (strV (dig n), []) := by
  obtain ⟨h0, h1⟩ := wfI64.1 hn
  have h : callW code ext 708 [int64 n, int64 10] [] = some (strV (dig n), []) := by
    rw [callW_ext code ext c.n708 (by decide), c.e708]
    simp [extItoa, h0, h1, dig]
  have h2 : callW code ext 709 [int64 n] [] = some (strV (dig n), []) := by
    rw [callW_fun code ext c.c709]
    simp -implicitDefEqProofs [x709, h]
  rw [callW_fun code ext c.c786]
  simp -implicitDefEqProofs [x786, h2]
theorem value_one (c : TextCode code ext) (h : code 651 = some x651) (h246 : code 246 = some x246) {sv : IV} {S : List Obj} (hr : Reads tObj sv S) (v : Val) (hv : tVal.wf v) (inn : Int) (b : ByteArray) (x : ByteArray)
    (hp : pieceOf S (decide (8 < inn)) v = some x) {nw : Int} (hw : callW code ext 673 [.optr 0 0, strV x] (bOne sv b) = some (.tup [int64 nw, .imm (.val .nilIface)], bTwo sv (b ++ x))) (hfn : ∀ o ∈ S, (tInt .i64).wf o.fn) (hsz : x.size ≤ 9223372036854775807) :
    callW code ext 246 [.optr 0 0, .agg [.imm (.val (.int .u8 v.k)), int64 v.n], int64 inn] (bOne sv b) = some (.tup [], bTwo sv (b ++ x)) := by
  have hld := leadsI_spec (ext := ext) h hr v hv.2
  have hfm := format_of c v.n hv.2
  rw [callW_fun code ext h246]
  simp only [bOne, bTwo] at hw ⊢
  obtain ⟨vk, vn⟩ := v
  simp only at hld hfm hp ⊢
  unfold pieceOf objOf at hp
  by_cases k0 : vk = 0
  · subst k0
    simp at hp; subst hp
    rcases hld with ⟨_, hl⟩ | ⟨k, o, row, off, _, _, _, hl⟩ <;> simp -implicitDefEqProofs [x246, hl, hw]
  by_cases k1 : vk = 1
  · subst k1
    by_cases hn : vn = 1
    · subst hn
      simp at hp; subst hp
      rcases hld with ⟨_, hl⟩ | ⟨k, o, row, off, _, _, _, hl⟩ <;> simp -implicitDefEqProofs [x246, hl, hw]
    · simp [hn] at hp; subst hp
      rcases hld with ⟨_, hl⟩ | ⟨k, o, row, off, _, _, _, hl⟩ <;> simp -implicitDefEqProofs [x246, hl, hw, hn]
  by_cases k2 : vk = 2
  · subst k2
    simp at hp; subst hp
    rcases hld with ⟨_, hl⟩ | ⟨k, o, row, off, _, _, _, hl⟩ <;> simp -implicitDefEqProofs [x246, hl, hw, hfm]
  rcases hld with ⟨hn, hl⟩ | ⟨k, o, row, off, hle, hso, hget, hl⟩
  · simp [k0, k1, k2, hn] at hp; subst hp
    simp -implicitDefEqProofs [x246, hl, hw, k0, k1, k2]
  have hof := hfn o (List.mem_of_getElem? hso)
  have hit := itoa_of c o.fn hof
  have g0 : row[off]? = some (.val (.int .u8 o.k)) := by simpa using cut_get hget 0 (by omega)
  have g1 : row[off + 1]? = some (.val (.string o.s)) := cut_get hget 1 (by omega)
  have g4 : row[off + 4]? = some (.val (.int .i64 o.fn)) := cut_get hget 4 (by omega)
  simp only [hle, Option.bind_some, hso, k0, k1, k2, if_false] at hp
  by_cases k7 : vk = 7
  · subst k7
    simp at hp; subst hp
    simp -implicitDefEqProofs [x246, hl, hw]
  by_cases k3 : vk = 3
  · subst k3
    simp at hp; subst hp
    simp -implicitDefEqProofs [x246, hl, hw, g1]
  by_cases k6 : vk = 6
  · subst k6
    simp at hp; subst hp
    have hs1 : fnT.size + (dig o.fn).size ≤ 9223372036854775807 := by rw [← size_append']; exact hsz
    simp -implicitDefEqProofs [x246, hl, hw, g4, hit, hs1]
  by_cases hd : (8 : Int) < inn
  · simp [k7, k3, k6, hd] at hp; subst hp
    simp -implicitDefEqProofs [x246, hl, hw, k0, k1, k2, k7, k3, k6, hd]
  · simp [k7, k3, k6, hd] at hp
theorem value_nil (c : TextCode code ext) (h : code 651 = some x651) (h246 : code 246 = some x246) {sv : IV} {S : List Obj} (hr : Reads tObj sv S) (v : Val) (hv : tVal.wf v) (inn : Int) (u : Bool) (x : ByteArray)
    (hp : pieceOf S (decide (8 < inn)) v = some x) {nw : Int} (hw : callW code ext 673 [.optr 0 0, strV x] (bNil u sv) = some (.tup [int64 nw, .imm (.val .nilIface)], bOne sv x)) (hfn : ∀ o ∈ S, (tInt .i64).wf o.fn) (hsz : x.size ≤ 9223372036854775807) :
    callW code ext 246 [.optr 0 0, .agg [.imm (.val (.int .u8 v.k)), int64 v.n], int64 inn] (bNil u sv) = some (.tup [], bOne sv x) := by
  have hld := leadsI_spec (ext := ext) h hr v hv.2
  have hfm := format_of c v.n hv.2
  rw [callW_fun code ext h246]
  simp only [bNil, bAddr, bOne] at hw ⊢
  obtain ⟨vk, vn⟩ := v
  simp only at hld hfm hp ⊢
  unfold pieceOf objOf at hp
  cases u <;> simp only [] at hw ⊢
  all_goals
    by_cases k0 : vk = 0
    · subst k0
      simp at hp; subst hp
      rcases hld with ⟨_, hl⟩ | ⟨k, o, row, off, _, _, _, hl⟩ <;> simp -implicitDefEqProofs [x246, hl, hw]
    by_cases k1 : vk = 1
    · subst k1
      by_cases hn : vn = 1
      · subst hn
        simp at hp; subst hp
        rcases hld with ⟨_, hl⟩ | ⟨k, o, row, off, _, _, _, hl⟩ <;> simp -implicitDefEqProofs [x246, hl, hw]
      · simp [hn] at hp; subst hp
        rcases hld with ⟨_, hl⟩ | ⟨k, o, row, off, _, _, _, hl⟩ <;> simp -implicitDefEqProofs [x246, hl, hw, hn]
    by_cases k2 : vk = 2
    · subst k2
      simp at hp; subst hp
      rcases hld with ⟨_, hl⟩ | ⟨k, o, row, off, _, _, _, hl⟩ <;> simp -implicitDefEqProofs [x246, hl, hw, hfm]
    rcases hld with ⟨hn, hl⟩ | ⟨k, o, row, off, hle, hso, hget, hl⟩
    · simp [k0, k1, k2, hn] at hp; subst hp
      simp -implicitDefEqProofs [x246, hl, hw, k0, k1, k2]
    have hof := hfn o (List.mem_of_getElem? hso)
    have hit := itoa_of c o.fn hof
    have g0 : row[off]? = some (.val (.int .u8 o.k)) := by simpa using cut_get hget 0 (by omega)
    have g1 : row[off + 1]? = some (.val (.string o.s)) := cut_get hget 1 (by omega)
    have g4 : row[off + 4]? = some (.val (.int .i64 o.fn)) := cut_get hget 4 (by omega)
    simp only [hle, Option.bind_some, hso, k0, k1, k2, if_false] at hp
    by_cases k7 : vk = 7
    · subst k7
      simp at hp; subst hp
      simp -implicitDefEqProofs [x246, hl, hw]
    by_cases k3 : vk = 3
    · subst k3
      simp at hp; subst hp
      simp -implicitDefEqProofs [x246, hl, hw, g1]
    by_cases k6 : vk = 6
    · subst k6
      simp at hp; subst hp
      have hs1 : fnT.size + (dig o.fn).size ≤ 9223372036854775807 := by rw [← size_append']; exact hsz
      simp -implicitDefEqProofs [x246, hl, hw, g4, hit, hs1]
    by_cases hd : (8 : Int) < inn
    · simp [k7, k3, k6, hd] at hp; subst hp
      simp -implicitDefEqProofs [x246, hl, hw, k0, k1, k2, k7, k3, k6, hd]
    · simp [k7, k3, k6, hd] at hp
theorem value_none (c : TextCode code ext) (h : code 651 = some x651) (h246 : code 246 = some x246) {sv : IV} {S : List Obj} (hr : Reads tObj sv S) (v : Val) (hv : tVal.wf v) (inn : Int) (u : Bool) (x : ByteArray)
    (hp : pieceOf S (decide (8 < inn)) v = some x) {nw : Int} (hw : callW code ext 673 [.optr 0 0, strV x] (bNil u sv) = some (.tup [int64 nw, .imm (.val .nilIface)], bNil true sv)) (hfn : ∀ o ∈ S, (tInt .i64).wf o.fn) (hsz : x.size ≤ 9223372036854775807) :
    callW code ext 246 [.optr 0 0, .agg [.imm (.val (.int .u8 v.k)), int64 v.n], int64 inn] (bNil u sv) = some (.tup [], bNil true sv) := by
  have hld := leadsI_spec (ext := ext) h hr v hv.2
  have hfm := format_of c v.n hv.2
  rw [callW_fun code ext h246]
  simp only [bNil, bAddr] at hw ⊢
  obtain ⟨vk, vn⟩ := v
  simp only at hld hfm hp ⊢
  unfold pieceOf objOf at hp
  cases u <;> simp only [] at hw ⊢
  all_goals
    by_cases k0 : vk = 0
    · subst k0
      simp at hp; subst hp
      rcases hld with ⟨_, hl⟩ | ⟨k, o, row, off, _, _, _, hl⟩ <;> simp -implicitDefEqProofs [x246, hl, hw]
    by_cases k1 : vk = 1
    · subst k1
      by_cases hn : vn = 1
      · subst hn
        simp at hp; subst hp
        rcases hld with ⟨_, hl⟩ | ⟨k, o, row, off, _, _, _, hl⟩ <;> simp -implicitDefEqProofs [x246, hl, hw]
      · simp [hn] at hp; subst hp
        rcases hld with ⟨_, hl⟩ | ⟨k, o, row, off, _, _, _, hl⟩ <;> simp -implicitDefEqProofs [x246, hl, hw, hn]
    by_cases k2 : vk = 2
    · subst k2
      simp at hp; subst hp
      rcases hld with ⟨_, hl⟩ | ⟨k, o, row, off, _, _, _, hl⟩ <;> simp -implicitDefEqProofs [x246, hl, hw, hfm]
    rcases hld with ⟨hn, hl⟩ | ⟨k, o, row, off, hle, hso, hget, hl⟩
    · simp [k0, k1, k2, hn] at hp; subst hp
      simp -implicitDefEqProofs [x246, hl, hw, k0, k1, k2]
    have hof := hfn o (List.mem_of_getElem? hso)
    have hit := itoa_of c o.fn hof
    have g0 : row[off]? = some (.val (.int .u8 o.k)) := by simpa using cut_get hget 0 (by omega)
    have g1 : row[off + 1]? = some (.val (.string o.s)) := cut_get hget 1 (by omega)
    have g4 : row[off + 4]? = some (.val (.int .i64 o.fn)) := cut_get hget 4 (by omega)
    simp only [hle, Option.bind_some, hso, k0, k1, k2, if_false] at hp
    by_cases k7 : vk = 7
    · subst k7
      simp at hp; subst hp
      simp -implicitDefEqProofs [x246, hl, hw]
    by_cases k3 : vk = 3
    · subst k3
      simp at hp; subst hp
      simp -implicitDefEqProofs [x246, hl, hw, g1]
    by_cases k6 : vk = 6
    · subst k6
      simp at hp; subst hp
      have hs1 : fnT.size + (dig o.fn).size ≤ 9223372036854775807 := by rw [← size_append']; exact hsz
      simp -implicitDefEqProofs [x246, hl, hw, g4, hit, hs1]
    by_cases hd : (8 : Int) < inn
    · simp [k7, k3, k6, hd] at hp; subst hp
      simp -implicitDefEqProofs [x246, hl, hw, k0, k1, k2, k7, k3, k6, hd]
    · simp [k7, k3, k6, hd] at hp
end
end Go.EX

