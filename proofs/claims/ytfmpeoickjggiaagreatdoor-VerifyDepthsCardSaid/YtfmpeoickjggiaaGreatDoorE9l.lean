import Derived.Test.YtfmpeoickjggiaaGreatDoorE9k
import Derived.Test.YtfmpeoickjggiaaGreatDoorE9h
import Derived.Test.YtfmpeoickjggiaaGreatDoorE9f
import Derived.Test.YtfmpeoickjggiaaGreatDoorV9s
set_option maxRecDepth 100000
set_option maxHeartbeats 8000000
set_option linter.unusedVariables false
set_option linter.unusedSimpArgs false
namespace Go.EX
theorem ref_code {pv : IV} {ps : List Fn} (hp : Reads tFn pv ps) {ml : List Int} {ms : List (Int × Int)} (hm : Mk ps.length ml ms) (mv : Bool) (fn : Nat) (f : Fn) (hf : ps[fn]? = some f) :
    ∃ ml2, ((codeGo ps fn f f.code.xs 0 ms).1 < 0 → Mk ps.length ml2 (codeGo ps fn f f.code.xs 0 ms).2) ∧
      run9 538 [.imm pv, int64 fn, .osl 0 0 1 ps.length none] [.flat (rowI ml) mv] = some (int64 (codeGo ps fn f f.code.xs 0 ms).1, [.flat (rowI ml2) mv]) := by
  have hltf := (List.getElem?_eq_some_iff.1 hf).1
  have hbf := hp.2.1
  have hlf : (fn : Int) < ps.length := by omega
  have hfn0 : (0 : Int) ≤ (fn : Int) := by omega
  have l5 := reads_len f.code.ok
  have hb := f.code.ok.2.1
  have loop : ∃ e s', den code9 (extInsert 766) (.loop [0, 1, 2, 7, 8] x538L1) ⟨1, [(0, .imm pv), (1, int64 fn), (2, .osl 0 0 1 ps.length none), (7, .optr 1 0), (8, int64 0)], [.flat (rowI ml) mv, .rich (fnCells f)]⟩ = some (e, s') ∧ e ≠ .normal ∧
      ((e = .exit 0 ∧ (codeGo ps fn f f.code.xs 0 ms).1 = -1 ∧ ∃ ml2 env rest, Mk ps.length ml2 (codeGo ps fn f f.code.xs 0 ms).2 ∧ s' = ⟨1, env, .flat (rowI ml2) mv :: rest⟩) ∨
       (e = .ret ∧ 0 ≤ (codeGo ps fn f f.code.xs 0 ms).1 ∧ ∃ ml2 rest, s' = ⟨1, [(6, int64 (codeGo ps fn f f.code.xs 0 ms).1)], .flat (rowI ml2) mv :: rest⟩)) := by
    refine loop_rule (fun n s => ∃ (i : Nat) (ms' : List (Int × Int)) (ml' : List Int), i + n = f.code.xs.length ∧ codeGo ps fn f (f.code.xs.drop i) i ms' = codeGo ps fn f f.code.xs 0 ms ∧ Mk ps.length ml' ms' ∧
      s.tidy [0, 1, 2, 7, 8] = ⟨1, kEnv pv fn ps.length i, [.flat (rowI ml') mv, .rich (fnCells f)]⟩) _ ?_ f.code.xs.length _ ⟨0, ms, ml, by simp, by simp, hm, by
        generalize rowI ml = R
        simp -implicitDefEqProofs [fnCells]⟩
    rintro n s ⟨i, ms', ml', hi, hgo, hm', hst⟩
    rw [hst]
    by_cases hlt : i < f.code.xs.length
    · have hx := List.getElem?_eq_getElem hlt
      obtain ⟨e, s', h1, ⟨rfl, h2, ml2, h3, rfl⟩ | ⟨rfl, h2, h3, rfl⟩⟩ := ref_code_step hp hm' mv fn f hf i _ hx
      · rw [codeGo_drop hx, if_pos h2] at hgo
        refine ⟨_, _, h1, .inl ⟨rfl, n - 1, by omega, i + 1, _, ml2, by omega, hgo, h3, ?_⟩⟩
        generalize rowI ml2 = R
        simp -implicitDefEqProofs [fnCells]
      · rw [hgo] at h3
        exact ⟨_, _, h1, .inr ⟨by simp, .inr ⟨rfl, by omega, ml', [.rich (fnCells f), .rich [.imm (.val (.int .u8 f.code.xs[i].op)), int64 f.code.xs[i].a]], by rw [h3]⟩⟩⟩
    · have he : i = f.code.xs.length := by omega
      subst he
      rw [List.drop_length] at hgo
      have hlti : ¬ ((f.code.xs.length : Int) < f.code.xs.length) := by omega
      refine ⟨.exit 0, ⟨1, kEnv pv fn ps.length f.code.xs.length ++ [(18, avb false)], [.flat (rowI ml') mv, .rich (fnCells f)]⟩, ?_, .inr ⟨by simp, .inl ⟨rfl, by rw [← hgo]; rfl, ml', _, _, by rw [← hgo]; exact hm', rfl⟩⟩⟩
      generalize rowI ml' = R
      simp -implicitDefEqProofs [x538L1, fnCells, l5]
  obtain ⟨row, off, cap, rfl, _, _, hget⟩ := reads_pos hp hf
  simp only [tFn] at hget
  obtain ⟨e, s', h1, _, ⟨rfl, h2, ml2, env, rest, h3, rfl⟩ | ⟨rfl, h2, ml2, rest, rfl⟩⟩ := loop
  · refine ⟨ml2, fun _ => h3, ?_⟩
    rw [h2]
    unfold run9
    rw [callW_fun code9 (extInsert 766) (rfl : code9 538 = some x538)]
    simp only [fnCells] at h1
    generalize rowI ml = R at *
    generalize rowI ml2 = R2 at *
    cases rest with
    | nil => simp -implicitDefEqProofs [x538, hget, hltf, hlf, hfn0, h1]
    | cons q r => simp -implicitDefEqProofs [x538, hget, hltf, hlf, hfn0, h1]
  · refine ⟨ml2, fun h => absurd h (by omega), ?_⟩
    unfold run9
    rw [callW_fun code9 (extInsert 766) (rfl : code9 538 = some x538)]
    simp only [fnCells] at h1
    generalize (codeGo ps fn f f.code.xs 0 ms).1 = z at *
    generalize rowI ml = R at *
    generalize rowI ml2 = R2 at *
    cases rest with
    | nil => simp -implicitDefEqProofs [x538, hget, hltf, hlf, hfn0, h1]
    | cons q r => simp -implicitDefEqProofs [x538, hget, hltf, hlf, hfn0, h1]
theorem ref_makers (pv : IV) {ps : List Fn} (hp : Reads tFn pv ps) (h1n : 1 ≤ ps.length) (hn : ps.length ≤ 256) {st : St} (hst : st.tidy [0, 5, 6] = ⟨0, [(0, .imm pv), (5, nilS), (6, int64 0)], []⟩) :
    ∃ e s', den code9 (extInsert 766) (.loop [0, 5, 6] x533L1) st = some (e, s') ∧ e ≠ .normal ∧ (e = .exit 0 ∧ s' = ⟨0, [(0, .imm pv), (5, .osl 0 0 1 ps.length none), (6, int64 ps.length), (21, avb false)], [.flat (rowI (List.replicate ps.length (-1))) false]⟩) := by
  have hlen := reads_len hp
  generalize ps.length = n at *
  refine loop_rule (fun m st => ∃ (i : Nat), i + m = n ∧ ((i = 0 ∧ st.tidy [0, 5, 6] = ⟨0, [(0, .imm pv), (5, nilS), (6, int64 0)], []⟩) ∨
      (0 < i ∧ st.tidy [0, 5, 6] = ⟨0, [(0, .imm pv), (5, .osl 0 0 1 i none), (6, int64 i)], [.flat (rowI (List.replicate i (-1))) false]⟩))) _ ?_ n _ ⟨0, by simp, .inl ⟨rfl, hst⟩⟩
  clear hst
  rintro m st ⟨i, hi, ⟨rfl, hst⟩ | ⟨hi0, hst⟩⟩
  · rw [hst]
    have hlt : (0 : Int) < n := by omega
    have e1 : IntKind.wrap .i64 1 = 1 := rfl
    refine ⟨.normal, ⟨0, [(0, .imm pv), (5, .osl 1 0 1 1 none), (6, int64 1)], [.flat [.val (.int .i64 (-1))] false, .flat [.val (.int .i64 (-1))] false]⟩, ?_, .inl ⟨rfl, m - 1, by omega, 1, by omega, .inr ⟨by omega, ?_⟩⟩⟩
    · simp -implicitDefEqProofs [x533L1, hlt, hlen, h1n, show 0 < n from h1n, exAppendX, exAppend, elems, e1]
    · simp -implicitDefEqProofs [List.replicate, rowI, Ty.row, tInt]
  · rw [hst]
    by_cases hlt : i < n
    · have hlti : (i : Int) < n := by omega
      have e1 : IntKind.wrap .i64 ((i : Int) + 1) = (i : Int) + 1 := wrapI64 (by omega) (by omega)
      have hcut : cut (rowI (List.replicate i (-1))) 0 i = some (rowI (List.replicate i (-1))) := cut_all _ (by rw [rowI_len]; simp)
      have hsn : rowI (List.replicate i (-1)) ++ [.val (.int .i64 (-1))] = rowI (List.replicate (i + 1) (-1)) := by
        rw [List.replicate_succ', rowI_app]; rfl
      have hbd : (i + 1) * 8 ≤ 140737488355328 := by omega
      refine ⟨.normal, ⟨0, [(0, .imm pv), (5, .osl 0 0 1 (i + 1) none), (6, int64 ((i : Int) + 1))], [.flat (rowI (List.replicate (i + 1) (-1))) false, .flat [.val (.int .i64 (-1))] false]⟩, ?_, .inl ⟨rfl, m - 1, by omega, i + 1, by omega, .inr ⟨by omega, ?_⟩⟩⟩
      · simp -implicitDefEqProofs [x533L1, hlti, hlt, hlen, exAppendX, exAppend, elems, e1, hcut, hsn, hbd]
      · simp -implicitDefEqProofs
    · have : i = n := by omega
      subst this
      refine ⟨.exit 0, _, ?_, .inr ⟨by simp, rfl, rfl⟩⟩
      simp -implicitDefEqProofs [x533L1, hlen]
theorem ref_look_step {pv : IV} {ps : List Fn} (hp : Reads tFn pv ps) {ml : List Int} {ms : List (Int × Int)} (hm : Mk ps.length ml ms) (fn : Nat) (f : Fn) (hf : ps[fn]? = some f) (r : List Fn) :
    ∃ e s', den code9 (extInsert 766) x533L2 ⟨0, [(0, .imm pv), (5, .osl 0 0 1 ps.length none), (7, int64 fn)], [.flat (rowI ml) false]⟩ = some (e, s') ∧
      ((e = .normal ∧ ∃ ml2 ms2, Mk ps.length ml2 ms2 ∧ lookGo ps (f :: r) fn ms = lookGo ps r (fn + 1) ms2 ∧ s' = ⟨0, [(0, .imm pv), (5, .osl 0 0 1 ps.length none), (7, int64 ((fn : Int) + 1))], [.flat (rowI ml2) false]⟩) ∨
       (e = .ret ∧ ∃ p : Int, (lookGo ps (f :: r) fn ms).1 = some (fn, p) ∧ ∃ mem, s' = ⟨0, [(2, int64 fn), (3, int64 p), (4, int64 8)], mem⟩)) := by
  have hltf := (List.getElem?_eq_some_iff.1 hf).1
  have hbf := hp.2.1
  have hlf : (fn : Int) < ps.length := by omega
  have hplen := reads_len hp
  have e1 : IntKind.wrap .i64 ((fn : Int) + 1) = (fn : Int) + 1 := wrapI64 (by omega) (by omega)
  have hw := hp.1 f (List.mem_of_getElem? hf)
  have hhead := ref_head f hw fn
  obtain ⟨ml2, hmk2, hcode⟩ := ref_code hp hm false fn f hf
  have hz : (decide (fn = 0)) = (decide ((fn : Int) = 0)) := by
    by_cases h : fn = 0
    · simp [h]
    · have : ¬ (fn : Int) = 0 := by omega
      simp [h, this]
  obtain ⟨row, off, cap, rfl, _, _, hget⟩ := reads_pos hp hf
  simp only [tFn] at hget
  unfold run9 at hhead hcode
  simp only [fnAV] at hhead
  rw [lookGo]
  cases hh : headOk fn f with
  | false =>
    rw [hh] at hhead
    refine ⟨.ret, ⟨0, [(2, int64 fn), (3, int64 0), (4, int64 8)], [.flat (rowI ml) false]⟩, ?_, .inr ⟨rfl, 0, by simp, _, rfl⟩⟩
    generalize rowI ml = R
    simp -implicitDefEqProofs [x533L2, hlf, hltf, hplen, hget, hhead]
  | true =>
    rw [hh] at hhead
    simp only [if_true]
    by_cases hc : (codeGo ps fn f f.code.xs 0 ms).1 < 0
    · have hok := fnOk_of hh hc
      have hcg : (codeGo ps fn f f.code.xs 0 ms).1 < 0 := hc
      rw [if_pos hc]
      have hmk3 := hmk2 hc
      have hng : ¬ 0 ≤ (codeGo ps fn f f.code.xs 0 ms).1 := by omega
      generalize codeGo ps fn f f.code.xs 0 ms = cg at *
      obtain ⟨z, ms2⟩ := cg
      simp only at hc hng hmk3 hcode
      rcases ref_depths f hok with ⟨p, hd, hrd⟩ | ⟨T, mv, hd, hTl, hrd⟩
      · rw [hd]
        refine ⟨.ret, ⟨0, [(2, int64 fn), (3, int64 p), (4, int64 8)], [.flat (rowI ml2) false]⟩, ?_, .inr ⟨rfl, p, rfl, _, rfl⟩⟩
        unfold run9 at hrd
        simp only [fnAV] at hrd
        generalize rowI ml = R at *
        generalize rowI ml2 = R2 at *
        simp -implicitDefEqProofs [x533L2, hlf, hltf, hplen, hget, hhead, hcode, hc, hrd]
      · rw [hd]
        refine ⟨.normal, ⟨0, [(0, .imm (.slice row off ps.length cap)), (5, .osl 0 0 1 ps.length none), (7, int64 ((fn : Int) + 1))], [.flat (rowI ml2) false]⟩, ?_, .inl ⟨rfl, ml2, ms2, hmk3, rfl, rfl⟩⟩
        unfold run9 at hrd
        simp only [fnAV] at hrd
        generalize rowI ml = R at *
        generalize rowI ml2 = R2 at *
        generalize rowI T = RT at *
        simp -implicitDefEqProofs [x533L2, hlf, hltf, hplen, hget, hhead, hcode, hc, hrd, e1]
    · rw [if_neg hc]
      have hng : 0 ≤ (codeGo ps fn f f.code.xs 0 ms).1 := by omega
      generalize codeGo ps fn f f.code.xs 0 ms = cg at *
      obtain ⟨z, ms2⟩ := cg
      simp only at hc hng hcode
      refine ⟨.ret, ⟨0, [(2, int64 fn), (3, int64 z), (4, int64 8)], [.flat (rowI ml2) false]⟩, ?_, .inr ⟨rfl, z, rfl, _, rfl⟩⟩
      generalize rowI ml = R at *
      generalize rowI ml2 = R2 at *
      simp -implicitDefEqProofs [x533L2, hlf, hltf, hplen, hget, hhead, hcode, hc, hng]
theorem ref_check {pv : IV} {ps : List Fn} (hp : Reads tFn pv ps) : run9 533 [.imm pv] [] = some (.tup [int64 (checkR ps).1, int64 (checkR ps).2.1, int64 (checkR ps).2.2], []) := by
  have hplen := reads_len hp
  have hbf := hp.2.1
  unfold checkR lookR
  by_cases hr : 1 ≤ ps.length ∧ ps.length ≤ 256
  · rw [if_pos hr]
    have hr0 : ¬ ps = [] := fun h => by rw [h] at hr; simp at hr
    have hr1 : ¬ 256 < (ps.length : Int) := by omega
    obtain ⟨e0, s0, hL1, _, rfl, rfl⟩ := ref_makers pv hp hr.1 hr.2 (st := ⟨0, [(0, .imm pv), (5, nilS), (6, int64 0)], []⟩) (by simp -implicitDefEqProofs [])
    have hmk0 : Mk ps.length (List.replicate ps.length (-1)) [] := ⟨by simp, fun q hq => by rw [List.getElem?_replicate, if_pos hq]; rfl, fun q v h => by simp [getM] at h⟩
    have loop2 : ∃ e s', den code9 (extInsert 766) (.loop [0, 5, 7] x533L2) ⟨0, [(0, .imm pv), (5, .osl 0 0 1 ps.length none), (7, int64 0)], [.flat (rowI (List.replicate ps.length (-1))) false]⟩ = some (e, s') ∧ e ≠ .normal ∧
        ((e = .ret ∧ ∃ (fn : Nat) (p : Int), (lookGo ps ps 0 []).1 = some (fn, p) ∧ ∃ mem, s' = ⟨0, [(2, int64 fn), (3, int64 p), (4, int64 8)], mem⟩) ∨
         (e = .exit 2 ∧ ∃ ml2 ms2, Mk ps.length ml2 ms2 ∧ lookGo ps ps 0 [] = (none, ms2) ∧ s' = ⟨0, [(0, .imm pv), (5, .osl 0 0 1 ps.length none), (7, int64 ps.length), (30, avb false)], [.flat (rowI ml2) false]⟩)) := by
      refine loop_rule (fun n s => ∃ (i : Nat) (ml : List Int) (ms : List (Int × Int)), i + n = ps.length ∧ Mk ps.length ml ms ∧ lookGo ps (ps.drop i) i ms = lookGo ps ps 0 [] ∧
        s.tidy [0, 5, 7] = ⟨0, [(0, .imm pv), (5, .osl 0 0 1 ps.length none), (7, int64 i)], [.flat (rowI ml) false]⟩) _ ?_ ps.length _ ⟨0, _, [], by simp, hmk0, by simp, by
          generalize rowI (List.replicate ps.length (-1)) = R
          simp -implicitDefEqProofs []⟩
      rintro n s ⟨i, ml, ms, hi, hm, hgo, hst⟩
      rw [hst]
      by_cases hlt : i < ps.length
      · have hx := List.getElem?_eq_getElem hlt
        rw [List.drop_eq_getElem_cons hlt] at hgo
        obtain ⟨e, s', h1, ⟨rfl, ml2, ms2, h2, h3, rfl⟩ | ⟨rfl, p, h2, mem, rfl⟩⟩ := ref_look_step hp hm i _ hx (ps.drop (i + 1))
        · refine ⟨_, _, h1, .inl ⟨rfl, n - 1, by omega, i + 1, ml2, ms2, by omega, h2, by rw [← hgo, h3], ?_⟩⟩
          generalize rowI ml2 = R
          simp -implicitDefEqProofs []
        · rw [hgo] at h2
          exact ⟨_, _, h1, .inr ⟨by simp, .inl ⟨rfl, i, p, h2, mem, rfl⟩⟩⟩
      · have he : i = ps.length := by omega
        subst he
        rw [List.drop_length] at hgo
        refine ⟨.exit 2, ⟨0, [(0, .imm pv), (5, .osl 0 0 1 ps.length none), (7, int64 ps.length), (30, avb false)], [.flat (rowI ml) false]⟩, ?_, .inr ⟨by simp, .inr ⟨rfl, ml, ms, hm, hgo.symm, rfl⟩⟩⟩
        generalize rowI ml = R
        simp -implicitDefEqProofs [x533L2, hplen]
    generalize hR0 : rowI (List.replicate ps.length (-1)) = R0 at *
    obtain ⟨e, s', hL2, _, ⟨rfl, fn, p, h2, mem, rfl⟩ | ⟨rfl, ml2, ms2, hmk, hlg, rfl⟩⟩ := loop2
    · have : lookGo ps ps 0 [] = (some (fn, p), (lookGo ps ps 0 []).2) := by rw [← h2]
      rw [this]
      unfold run9
      rw [callW_fun code9 (extInsert 766) (rfl : code9 533 = some x533)]
      cases mem with
      | nil => simp -implicitDefEqProofs [x533, hplen, hr0, hr1, hL1, hL2]
      | cons q r => simp -implicitDefEqProofs [x533, hplen, hr0, hr1, hL1, hL2]
    · rw [hlg]
      have loop3 : ∃ e s', den code9 (extInsert 766) (.loop [0, 5, 9] x533L3) ⟨0, [(0, .imm pv), (5, .osl 0 0 1 ps.length none), (9, int64 0)], [.flat (rowI ml2) false]⟩ = some (e, s') ∧ e ≠ .normal ∧
          ((e = .ret ∧ ∃ (fn : Nat), unmade ms2 ps 0 = some fn ∧ ∃ mem, s' = ⟨0, [(2, int64 fn), (3, int64 0), (4, int64 8)], mem⟩) ∨
           (e = .exit 4 ∧ unmade ms2 ps 0 = none ∧ s' = ⟨0, [(0, .imm pv), (5, .osl 0 0 1 ps.length none), (9, int64 ps.length), (63, avb false)], [.flat (rowI ml2) false]⟩)) := by
        refine loop_rule (fun n s => ∃ (i : Nat), i + n = ps.length ∧ unmade ms2 (ps.drop i) i = unmade ms2 ps 0 ∧
          s.tidy [0, 5, 9] = ⟨0, [(0, .imm pv), (5, .osl 0 0 1 ps.length none), (9, int64 i)], [.flat (rowI ml2) false]⟩) _ ?_ ps.length _ ⟨0, by simp, by simp, by
            generalize rowI ml2 = R
            simp -implicitDefEqProofs []⟩
        rintro n s ⟨i, hi, hgo, hst⟩
        rw [hst]
        have hRl := rowI_len ml2
        by_cases hlt : i < ps.length
        · have hx := List.getElem?_eq_getElem hlt
          rw [List.drop_eq_getElem_cons hlt, unmade] at hgo
          have hlti : (i : Int) < ps.length := by omega
          have e1 : IntKind.wrap .i64 ((i : Int) + 1) = (i : Int) + 1 := wrapI64 (by omega) (by omega)
          have hq := hmk.at' i hlt
          have hRg := rowI_get ml2 i
          rw [hq] at hRg
          simp only [Option.map_some] at hRg
          generalize ps[i] = f at *
          have l3 := reads_len f.caps.ok
          obtain ⟨row, off, cap, rfl, _, _, hget⟩ := reads_pos hp hx
          simp only [tFn] at hget
          have hget3 : row[off + i * 8 + 3]? = some f.caps.iv := by
            have := cut_cut hget (a := 3) (b := 1) (by omega)
            simp at this
            exact cut_one this
          by_cases hc : 0 < f.caps.xs.length
          · have hci : (0 : Int) < f.caps.xs.length := by omega
            cases hg : getM ms2 i with
            | none =>
              rw [hg] at hRg hgo
              simp only [Option.getD_none] at hRg
              rw [if_pos ⟨rfl, hc⟩] at hgo
              refine ⟨.ret, ⟨0, [(2, int64 i), (3, int64 0), (4, int64 8)], [.flat (rowI ml2) false]⟩, ?_, .inr ⟨by simp, .inl ⟨rfl, i, hgo.symm, _, rfl⟩⟩⟩
              generalize rowI ml2 = R at *
              simp -implicitDefEqProofs [x533L3, hlt, hlti, hget3, l3, hci, hc, hRg]
            | some v =>
              have hv0 := hmk.pos i v hg
              have hvn : ¬ v < 0 := by omega
              rw [hg] at hRg hgo
              simp only [Option.getD_some] at hRg
              rw [if_neg (by simp)] at hgo
              refine ⟨.normal, ⟨0, [(0, .imm (.slice row off ps.length cap)), (5, .osl 0 0 1 ps.length none), (9, int64 ((i : Int) + 1))], [.flat (rowI ml2) false]⟩, ?_, .inl ⟨rfl, n - 1, by omega, i + 1, by omega, hgo, ?_⟩⟩
              · generalize rowI ml2 = R at *
                simp -implicitDefEqProofs [x533L3, hlt, hlti, hget3, l3, hci, hc, hRg, hvn, e1]
              · generalize rowI ml2 = R at *
                simp -implicitDefEqProofs []
          · have hci : ¬ (0 : Int) < f.caps.xs.length := by omega
            rw [if_neg (fun h => hc h.2)] at hgo
            refine ⟨.normal, ⟨0, [(0, .imm (.slice row off ps.length cap)), (5, .osl 0 0 1 ps.length none), (9, int64 ((i : Int) + 1))], [.flat (rowI ml2) false]⟩, ?_, .inl ⟨rfl, n - 1, by omega, i + 1, by omega, hgo, ?_⟩⟩
            · generalize rowI ml2 = R at *
              simp -implicitDefEqProofs [x533L3, hlt, hlti, hget3, l3, hci, hc, e1]
            · generalize rowI ml2 = R at *
              simp -implicitDefEqProofs []
        · have he : i = ps.length := by omega
          subst he
          rw [List.drop_length] at hgo
          refine ⟨.exit 4, ⟨0, [(0, .imm pv), (5, .osl 0 0 1 ps.length none), (9, int64 ps.length), (63, avb false)], [.flat (rowI ml2) false]⟩, ?_, .inr ⟨by simp, .inr ⟨rfl, hgo.symm, rfl⟩⟩⟩
          generalize rowI ml2 = R
          simp -implicitDefEqProofs [x533L3, hplen]
      generalize rowI ml2 = R2 at *
      obtain ⟨e, s', hL3, _, ⟨rfl, fn, h2, mem, rfl⟩ | ⟨rfl, h2, rfl⟩⟩ := loop3
      · simp only [h2]
        unfold run9
        rw [callW_fun code9 (extInsert 766) (rfl : code9 533 = some x533)]
        cases mem with
        | nil => simp -implicitDefEqProofs [x533, hplen, hr0, hr1, hL1, hL2, hL3]
        | cons q r => simp -implicitDefEqProofs [x533, hplen, hr0, hr1, hL1, hL2, hL3]
      · simp only [h2]
        unfold run9
        rw [callW_fun code9 (extInsert 766) (rfl : code9 533 = some x533)]
        simp -implicitDefEqProofs [x533, hplen, hr0, hr1, hL1, hL2, hL3]
  · rw [if_neg hr]
    unfold run9
    rw [callW_fun code9 (extInsert 766) (rfl : code9 533 = some x533)]
    by_cases h0 : ps.length = 0
    · simp -implicitDefEqProofs [x533, hplen, h0]
    · have hr0 : ¬ ps = [] := fun h => by rw [h] at h0; simp at h0
      have hr1 : 256 < (ps.length : Int) := by omega
      simp -implicitDefEqProofs [x533, hplen, hr0, hr1]
end Go.EX

