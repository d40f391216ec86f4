import Derived.Test.YtfmpeoickjggiaaGreatDoorV9q
set_option maxRecDepth 100000
set_option maxHeartbeats 8000000
set_option linter.unusedVariables false
set_option linter.unusedSimpArgs false
namespace Go.EX
def ckCells0 (pv : IV) : List AV := .imm pv :: (rowsIV.map AV.imm ++ [.omap 0])
theorem ck0_refs (pv : IV) : AV.refs.refsL (ckCells0 pv) = [0] := rfl
theorem ck0_ren (f : Nat → Option Nat) (h : f 0 = some 1) (pv : IV) : AV.ren.renL f (ckCells0 pv) = ckCells pv := by
  simp only [ckCells0, ckCells, AV.ren.renL, AV.ren, renL_app, renL_imms, h]
theorem ck0_len (pv : IV) : (ckCells0 pv).length = 126 := rfl
theorem ck_build (pv : IV) : fillAll (imZ [(.slice none 0 0), (.int .u8 0), (.int .i64 0), (.int .i64 0), (.int .i64 0), (.int .u8 0), (.int .i64 0), (.int .i64 0), (.int .i64 0), (.int .u8 0), (.int .i64 0), (.int .i64 0), (.int .i64 0), (.int .u8 0), (.int .i64 0), (.int .i64 0), (.int .i64 0), (.int .u8 0), (.int .i64 0), (.int .i64 0), (.int .i64 0), (.int .u8 0), (.int .i64 0), (.int .i64 0), (.int .i64 0), (.int .u8 0), (.int .i64 0), (.int .i64 0), (.int .i64 0), (.int .u8 0), (.int .i64 0), (.int .i64 0), (.int .i64 0), (.int .u8 0), (.int .i64 0), (.int .i64 0), (.int .i64 0), (.int .u8 0), (.int .i64 0), (.int .i64 0), (.int .i64 0), (.int .u8 0), (.int .i64 0), (.int .i64 0), (.int .i64 0), (.int .u8 0), (.int .i64 0), (.int .i64 0), (.int .i64 0), (.int .u8 0), (.int .i64 0), (.int .i64 0), (.int .i64 0), (.int .u8 0), (.int .i64 0), (.int .i64 0), (.int .i64 0), (.int .u8 0), (.int .i64 0), (.int .i64 0), (.int .i64 0), (.int .u8 0), (.int .i64 0), (.int .i64 0), (.int .i64 0), (.int .u8 0), (.int .i64 0), (.int .i64 0), (.int .i64 0), (.int .u8 0), (.int .i64 0), (.int .i64 0), (.int .i64 0), (.int .u8 0), (.int .i64 0), (.int .i64 0), (.int .i64 0), (.int .u8 0), (.int .i64 0), (.int .i64 0), (.int .i64 0), (.int .u8 0), (.int .i64 0), (.int .i64 0), (.int .i64 0), (.int .u8 0), (.int .i64 0), (.int .i64 0), (.int .i64 0), (.int .u8 0), (.int .i64 0), (.int .i64 0), (.int .i64 0), (.int .u8 0), (.int .i64 0), (.int .i64 0), (.int .i64 0), (.int .u8 0), (.int .i64 0), (.int .i64 0), (.int .i64 0), (.int .u8 0), (.int .i64 0), (.int .i64 0), (.int .i64 0), (.int .u8 0), (.int .i64 0), (.int .i64 0), (.int .i64 0), (.int .u8 0), (.int .i64 0), (.int .i64 0), (.int .i64 0), (.int .u8 0), (.int .i64 0), (.int .i64 0), (.int .i64 0), (.int .u8 0), (.int .i64 0), (.int .i64 0), (.int .i64 0), (.int .u8 0), (.int .i64 0), (.int .i64 0), (.int .i64 0), (.map none)]) [(0, 1, .imm pv), (1, 124, .agg (rowsIV.map .imm)), (125, 1, .omap 0)] = some (ckCells0 pv) := by kernel_rfl
def lookR (ps : List Fn) : Option (List (Int × Int)) × (Int × Int) :=
  if 1 ≤ ps.length ∧ ps.length ≤ 256 then match lookGo ps ps 0 [] with
    | (some (fn, pc), _) => (none, ((fn : Int), pc))
    | (none, ms) => match unmade ms ps 0 with
      | some fn => (none, ((fn : Int), 0))
      | none => (some ms, (0, 0))
  else (none, (0, 0))
theorem look_loop {pv : IV} {ps : List Fn} (hp : Reads tFn pv ps) {st : St} (h1 : 1 ≤ ps.length) (hst : st.tidy [0, 2, 3, 4, 20, 21] = ⟨0, [(0, .imm pv), (2, .optr 0 0), (3, int64 0), (4, int64 0), (20, int64 ps.length), (21, int64 0)], ckMem pv []⟩) :
    ∃ e s', den code9 (extInsert 766) (.loop [0, 2, 3, 4, 20, 21] x661L1) st = some (e, s') ∧ e ≠ .normal ∧ (e = .exit 0 ∧
      ((∃ (fn : Nat) (pc : Int) (env : Env) (ms' : List (Int × Int)) (rest : Mem), 0 ≤ pc ∧ lookGo ps ps 0 [] = (some (fn, pc), ms') ∧ s' = ⟨0, [(0, .imm pv), (2, .optr 0 0), (3, int64 fn), (4, int64 pc)] ++ env, ckMem pv ms' ++ rest⟩) ∨
       (∃ (x : Int) (env : Env) (ms' : List (Int × Int)), lookGo ps ps 0 [] = (none, ms') ∧ s' = ⟨0, [(0, .imm pv), (2, .optr 0 0), (3, int64 x), (4, int64 (-1))] ++ env, ckMem pv ms'⟩))) := by
  have hbf := hp.2.1
  refine loop_rule (fun m st => ∃ (i : Nat) (x3 x4 : Int) (ms : List (Int × Int)), i + m = ps.length ∧ (i = 0 ∨ x4 = -1) ∧ lookGo ps (ps.drop i) i ms = lookGo ps ps 0 [] ∧
      st.tidy [0, 2, 3, 4, 20, 21] = ⟨0, [(0, .imm pv), (2, .optr 0 0), (3, int64 x3), (4, int64 x4), (20, int64 ps.length), (21, int64 i)], ckMem pv ms⟩) _ ?_ ps.length _ ⟨0, 0, 0, [], by simp, .inl rfl, by simp, hst⟩
  clear hst
  rintro m st ⟨i, x3, x4, ms, hi, h4, hgo, hst⟩
  rw [hst]
  by_cases hlt : i < ps.length
  · have hx := List.getElem?_eq_getElem hlt
    rw [List.drop_eq_getElem_cons hlt] at hgo
    generalize ps[i] = f at hx hgo
    obtain ⟨e, s', h5, ⟨pc, env, ms', rest, h6, rfl, rfl, h7⟩ | ⟨rfl, ms', h6, h7⟩⟩ := look_step hp ms i f hx x3 x4
    · rw [h7] at hgo
      exact ⟨_, _, h5, .inr ⟨by simp, rfl, .inl ⟨i, pc, env, ms', rest, h6, hgo.symm, rfl⟩⟩⟩
    · rw [h7] at hgo
      exact ⟨_, _, h5, .inl ⟨rfl, m - 1, by omega, i + 1, i, -1, ms', by omega, .inr rfl, hgo, h6⟩⟩
  · have : i = ps.length := by omega
    subst this
    have hx4 : x4 = -1 := by omega
    subst hx4
    rw [List.drop_length, lookGo] at hgo
    refine ⟨.exit 0, _, ?_, .inr ⟨by simp, rfl, .inr ⟨x3, [(20, int64 ps.length), (21, int64 ps.length), (22, avb false)], ms, hgo.symm, rfl⟩⟩⟩
    simp -implicitDefEqProofs [x661L1]
attribute [local simp] ck_ren
theorem unmade_loop {pv : IV} {ps : List Fn} (hp : Reads tFn pv ps) (ms : List (Int × Int)) {st : St} (hst : st.tidy [2, 46, 47, 48] = ⟨0, [(2, .optr 0 0), (46, .imm pv), (47, int64 ps.length), (48, int64 0)], ckMem pv ms⟩) :
    ∃ e s', den code9 (extInsert 766) (.loop [2, 46, 47, 48] x661L2) st = some (e, s') ∧ e ≠ .normal ∧
      ((e = .ret ∧ ∃ (fn : Nat), unmade ms ps 0 = some fn ∧ ∃ rest, s' = ⟨0, [(2, .imm (.val (.pointer none))), (3, int64 fn), (4, int64 0), (5, int64 8)], rest⟩) ∨
       (e = .exit 2 ∧ unmade ms ps 0 = none ∧ ∃ env, s' = ⟨0, [(2, .optr 0 0)] ++ env, ckMem pv ms⟩)) := by
  have hbf := hp.2.1
  refine loop_rule (fun m st => ∃ (i : Nat), i + m = ps.length ∧ unmade ms (ps.drop i) i = unmade ms ps 0 ∧
      st.tidy [2, 46, 47, 48] = ⟨0, [(2, .optr 0 0), (46, .imm pv), (47, int64 ps.length), (48, int64 i)], ckMem pv ms⟩) _ ?_ ps.length _ ⟨0, by simp, by simp, hst⟩
  clear hst
  rintro m st ⟨i, hi, hgo, hst⟩
  rw [hst]
  by_cases hlt : i < ps.length
  · obtain ⟨row, off, cap, rfl, hc, hcut, hget⟩ := reads_pos hp (List.getElem?_eq_getElem hlt)
    have hlti : (i : Int) < ps.length := by omega
    have e1 : IntKind.wrap .i64 ((i : Int) + 1) = (i : Int) + 1 := wrapI64 (by omega) (by omega)
    rw [List.drop_eq_getElem_cons hlt, unmade] at hgo
    generalize ps[i] = f at hget hgo
    simp only [tFn] at hget
    have l3 := reads_len f.caps.ok
    have hN : ∀ (hres : unmade ms (ps.drop (i + 1)) (i + 1) = unmade ms ps 0), ∃ M, M = ckMem (.slice row off ps.length cap) ms ++ [.rich (fnCells f)] := fun _ => ⟨_, rfl⟩
    rcases findM ms i 0 with ⟨h1, h2, _⟩ | ⟨j, v0, h1, h2, h3, _⟩
    · by_cases hcp : 0 < f.caps.xs.length
      · have hcpi : (0 : Int) < f.caps.xs.length := by omega
        rw [if_pos ⟨h1, hcp⟩] at hgo
        refine ⟨.ret, ⟨0, [(2, .imm (.val (.pointer none))), (3, int64 i), (4, int64 0), (5, int64 8)], ckMem (.slice row off ps.length cap) ms ++ [.rich (fnCells f)]⟩, ?_, .inr ⟨by simp, .inl ⟨rfl, i, hgo.symm, _, rfl⟩⟩⟩
        simp only [ckMem, List.cons_append, List.nil_append]
        simp -implicitDefEqProofs [x661L2, hlti, hlt, hget, h2, l3, hcp]
      · have hcpi : ¬ (0 : Int) < f.caps.xs.length := by omega
        rw [if_neg (fun h => hcp h.2)] at hgo
        refine ⟨.normal, ⟨0, [(2, .optr 0 0), (46, .imm (.slice row off ps.length cap)), (47, int64 ps.length), (48, int64 ((i : Int) + 1))], ckMem (.slice row off ps.length cap) ms ++ [.rich (fnCells f)]⟩, ?_, .inl ⟨rfl, m - 1, by omega, i + 1, by omega, hgo, ?_⟩⟩
        · simp only [ckMem, List.cons_append, List.nil_append]
          simp -implicitDefEqProofs [x661L2, hlti, hlt, hget, h2, l3, hcp, e1]
        · simp only [ckMem, List.cons_append, List.nil_append]
          simp -implicitDefEqProofs
    · simp only [Nat.zero_add] at h2
      have hg2 := mkMap_get _ _ _ _ h3
      rw [if_neg (fun h => by rw [h1] at h; cases h.1)] at hgo
      refine ⟨.normal, ⟨0, [(2, .optr 0 0), (46, .imm (.slice row off ps.length cap)), (47, int64 ps.length), (48, int64 ((i : Int) + 1))], ckMem (.slice row off ps.length cap) ms ++ [.rich (fnCells f)]⟩, ?_, .inl ⟨rfl, m - 1, by omega, i + 1, by omega, hgo, ?_⟩⟩
      · simp only [ckMem, List.cons_append, List.nil_append]
        simp -implicitDefEqProofs [x661L2, hlti, hlt, hget, h2, hg2, l3, e1]
      · simp only [ckMem, List.cons_append, List.nil_append]
        simp -implicitDefEqProofs
  · have : i = ps.length := by omega
    subst this
    rw [List.drop_length, unmade] at hgo
    refine ⟨.exit 2, _, ?_, .inr ⟨by simp, .inr ⟨rfl, hgo.symm, [(46, .imm pv), (47, int64 ps.length), (48, int64 ps.length), (49, avb false)], rfl⟩⟩⟩
    simp -implicitDefEqProofs [x661L2]
theorem look_spec {pv : IV} {ps : List Fn} (hp : Reads tFn pv ps) :
    (∃ a b : Int, lookR ps = (none, (a, b)) ∧ run9 661 [.imm pv] [] = some (.tup [.imm (.val (.pointer none)), int64 a, int64 b, int64 8], [])) ∨
    (∃ ms, lookR ps = (some ms, (0, 0)) ∧ run9 661 [.imm pv] [] = some (.tup [.optr 0 0, int64 0, int64 0, int64 0], ckMem pv ms)) := by
  have hlen := reads_len hp
  have hbf := hp.2.1
  have his := is_spec ps.length 1 257
  have hrows := rows_spec
  have hbuild := ck_build pv
  have hpl : (rowsIV.map AV.imm).all AV.plain1 = true := by decide
  generalize rowsIV.map AV.imm = RS at hrows hbuild hpl
  unfold run9 at his hrows ⊢
  rw [callW_fun code9 (extInsert 766) (rfl : code9 661 = some x661)]
  unfold lookR
  by_cases hr : 1 ≤ ps.length ∧ ps.length ≤ 256
  · rw [if_pos hr]
    have hb : isB ps.length 1 257 = true := by simp only [isB, Bool.and_eq_true, decide_eq_true_eq]; omega
    rw [hb] at his
    obtain ⟨e, s', hL1, _, rfl, hcase⟩ := look_loop hp (st := ⟨0, [(0, .imm pv), (2, .optr 1 0), (3, int64 0), (4, int64 0), (20, int64 ps.length), (21, int64 0)], [.map [], .rich (ckCells0 pv)]⟩) hr.1 (by
      simp only [ckMem, mkMap]
      simp -implicitDefEqProofs [ck0_refs, ck0_ren])
    rcases hcase with ⟨fn, pc, env, ms', rest, h1, h2, rfl⟩ | ⟨x, env, ms', h2, rfl⟩
    · rw [h2]
      refine .inl ⟨fn, pc, rfl, ?_⟩
      simp only [ckMem, List.cons_append, List.nil_append] at hL1
      simp -implicitDefEqProofs [x661, -fillAll, -imZ, hlen, his, hrows, hpl, hbuild, ck0_len, hL1, h1]
    · rw [h2]
      obtain ⟨e2, s2, hL2, _, hcase2⟩ := unmade_loop hp ms' (st := ⟨0, [(2, .optr 0 0), (46, .imm pv), (47, int64 ps.length), (48, int64 0)], ckMem pv ms'⟩) (by simp only [ckMem]; simp -implicitDefEqProofs)
      simp only [ckMem, List.cons_append, List.nil_append] at hL1 hL2
      rcases hcase2 with ⟨rfl, fn, h3, rest, rfl⟩ | ⟨rfl, h3, env2, rfl⟩
      · refine .inl ⟨fn, 0, by simp only [h3], ?_⟩
        simp -implicitDefEqProofs [x661, -fillAll, -imZ, hlen, his, hrows, hpl, hbuild, ck0_len, hL1, hL2]
      · refine .inr ⟨ms', by simp only [h3], ?_⟩
        simp only [ckMem, List.cons_append, List.nil_append] at hL2 ⊢
        simp -implicitDefEqProofs [x661, -fillAll, -imZ, hlen, his, hrows, hpl, hbuild, ck0_len, hL1, hL2]
  · rw [if_neg hr]
    have hb : isB ps.length 1 257 = false := by
      simp only [isB, Bool.and_eq_false_iff, decide_eq_false_iff_not]
      omega
    rw [hb] at his
    refine .inl ⟨0, 0, rfl, ?_⟩
    simp -implicitDefEqProofs [x661, hlen, his]
end Go.EX

