import Derived.Test.YtfmpeoickjggiaaGreatDoorE9d
set_option linter.unusedVariables false
set_option linter.unusedSimpArgs false
namespace Go.EX
theorem rowB_get (l : List Bool) (i : Nat) (b : Bool) (h : l[i]? = some b) : (rowB l)[i]? = some (.val (.bool b)) := by simp [rowB, h]
theorem rowB_set (l : List Bool) (i : Nat) (b : Bool) : (rowB l).set i (.val (.bool b)) = rowB (l.set i b) := by simp [rowB, List.map_set]
theorem rowB_len (l : List Bool) : (rowB l).length = l.length := by simp [rowB]
abbrev rEnv0 (n : Nat) (pc : Int) : Env := [(1, .optr 0 0), (4, int64 n), (5, .optr 1 0), (6, .osl 2 0 1 n (some n)), (8, int64 pc)]
set_option maxRecDepth 100000 in
set_option maxHeartbeats 8000000 in
theorem r_round (f : Fn) {np n : Nat} (hf : FnOk np f) (hn : f.code.xs.length = n) (told ini : List Int) (tk : List Bool) (mv : Bool) (hl : told.length = n) (htk : tk.length = n) (hbd : ∀ x ∈ told, -1 ≤ x ∧ x ≤ 256)
    (pc : Nat) (i : Ins) (hi : f.code.xs[pc]? = some i) (v : Int) (hv : told[pc]? = some v) (b : Bool) (hb : tk[pc]? = some b) :
    ∃ e s', den code9 (extInsert 766) x540L6 ⟨0, rEnv0 n pc, rMem f ⟨told, ini, true⟩ tk mv⟩ = some (e, s') ∧
      (((b = true ∨ v < 0) ∧ e = .normal ∧ s'.tidy [1, 4, 5, 6, 8] = ⟨0, rEnv0 n (pc + 1 : Nat), rMem f ⟨told, ini, true⟩ tk mv⟩) ∨
       (b = false ∧ 0 ≤ v ∧
         ((depStep f i pc v told ini = none ∧ e = .ret ∧ ∃ mem, s' = ⟨0, [(2, nilS), (3, int64 pc)], mem⟩) ∨
          (∃ s, depStep f i pc v told ini = some s ∧ e = .normal ∧ s'.tidy [1, 4, 5, 6, 8] = ⟨0, rEnv0 n (minL pc (nexts i pc) : Nat), rMem f s (tk.set pc true) mv⟩)))) := by
  have hlt := (List.getElem?_eq_some_iff.1 hi).1
  rw [hn] at hlt
  have hfew := hf.few
  rw [hn] at hfew
  have hlti : (pc : Int) < n := by omega
  have e1 : IntKind.wrap .i64 ((pc : Int) + 1) = (pc : Int) + 1 := wrapI64 (by omega) (by omega)
  have hgB := rowB_get tk pc b hb
  have hsB := rowB_set tk pc true
  have hlB := rowB_len tk
  have hgT := rowI_get told pc
  rw [hv] at hgT
  simp only [Option.map_some] at hgT
  have hvb := hbd v (List.mem_of_getElem? hv)
  by_cases hskip : b = true ∨ v < 0
  · refine ⟨.normal, ⟨0, rEnv0 n ((pc : Int) + 1), rMem f ⟨told, ini, true⟩ tk mv⟩, ?_, .inl ⟨hskip, rfl, ?_⟩⟩
    · simp only [rMem, fnCells, hl]
      generalize rowB tk = B at *
      generalize rowI told = T at *
      cases b with
      | true => simp -implicitDefEqProofs [x540L6, hlti, hlt, hgB, hgT, e1]
      | false =>
        have hneg : v < 0 := by simpa using hskip
        simp -implicitDefEqProofs [x540L6, hlti, hlt, hgB, hgT, e1, hneg]
    · simp only [rMem, fnCells]
      generalize rowB tk = B
      generalize rowI told = T
      simp -implicitDefEqProofs []
  · have hbf : b = false := by cases b <;> simp_all
    have hv0 : 0 ≤ v := by rcases Int.lt_or_le v 0 with h | h; exact absurd (.inr h) hskip; exact h
    subst hbf
    have hneg : ¬ v < 0 := by omega
    have hnum := (hf.num pc i hi).1
    have htakes := ref_takes hnum
    have hop := numOk_op hnum
    obtain ⟨row, off, cap, hiv, _, _, hget⟩ := reads_pos f.code.ok hi
    simp only [tIns] at hget
    have hget0 : row[off + pc * 2]? = some (.val (.int .u8 i.op)) := by
      have := cut_cut hget (a := 0) (b := 1) (by omega)
      simp at this
      exact cut_one this
    have lc := reads_len f.code.ok
    rw [hiv] at lc
    rw [hn] at hiv lc
    have hdef : dOf v i = v - ((qOf i.op).2.1 + (qOf i.op).2.2.2 * i.a) := by unfold dOf; omega
    have htmb : 0 ≤ (qOf i.op).2.1 + (qOf i.op).2.2.2 * i.a ∧ (qOf i.op).2.1 + (qOf i.op).2.2.2 * i.a ≤ 600 ∧ 0 ≤ (qOf i.op).2.2.1 ∧ (qOf i.op).2.2.1 ≤ 2 := by
      have h1 := opRow_le i.op
      have h2 := numOk_tm hnum
      simp only [qOf]
      rcases h2 with h2 | h2
      · rw [h2]; simp only [Int.natCast_zero, Int.zero_mul]; omega
      · have h3 : (opRow i.op).2.2.2 = 0 ∨ (opRow i.op).2.2.2 = 1 ∨ (opRow i.op).2.2.2 = 2 := by omega
        rcases h3 with h3 | h3 | h3 <;> rw [h3] <;> simp <;> omega
    generalize hTK : (qOf i.op).2.1 + (qOf i.op).2.2.2 * i.a = tks at *
    generalize hLV : (qOf i.op).2.2.1 = lvs at *
    have eD : IntKind.wrap .i64 (v - tks) = v - tks := wrapI64 (by omega) (by omega)
    have eD2 : IntKind.wrap .i64 (v - tks + lvs) = v - tks + lvs := wrapI64 (by omega) (by omega)
    unfold run9 at htakes
    unfold depStep
    rw [hdef, hLV]
    by_cases hpf : preFault v i = true
    · rw [if_pos hpf]
      refine ⟨.ret, ⟨0, [(2, nilS), (3, int64 pc)], rMem f ⟨told, ini, true⟩ (tk.set pc true) mv⟩, ?_, .inr ⟨rfl, hv0, .inl ⟨rfl, rfl, _, rfl⟩⟩⟩
      unfold preFault at hpf
      rw [hdef, hLV] at hpf
      simp only [rMem, fnCells, hl, hiv]
      generalize rowB (tk.set pc true) = B2 at *
      generalize rowB tk = B at *
      generalize rowI told = T at *
      have hfit : pc + 1 ≤ B.length := by omega
      by_cases c1 : v < tks
      · simp -implicitDefEqProofs [x540L6, hlti, hlt, hgB, hgT, e1, hneg, hsB, setAll, hfit, lc, hget, hget0, htakes, c1, eD, eD2]
      · by_cases c2 : 256 < v - tks + lvs
        · simp -implicitDefEqProofs [x540L6, hlti, hlt, hgB, hgT, e1, hneg, hsB, setAll, hfit, lc, hget, hget0, htakes, c1, c2, eD, eD2]
        · have c3 : i.op = 21 ∧ v ≠ 0 := by
            simp only [Bool.or_eq_true, Bool.and_eq_true, decide_eq_true_eq] at hpf
            omega
          have c4 : (i.op = 21) = True := eq_true c3.1
          simp -implicitDefEqProofs [x540L6, hlti, hlt, hgB, hgT, e1, hneg, hsB, setAll, hfit, lc, hget, hget0, htakes, c1, c2, c3.2, c4, eD, eD2]
    · have hpf2 : preFault v i = false := by simpa using hpf
      have hpb := pre_bd hpf2
      rw [hdef, hLV] at hpb
      rw [if_neg hpf, handGo_any]
      have c1 : ¬ v < tks := by omega
      have c2 : ¬ 256 < v - tks + lvs := by omega
      have c3 : i.op = 21 → v = 0 := by
        intro h
        unfold preFault at hpf2
        simp [h] at hpf2
        omega
      obtain ⟨e2, s2, hck, _, hck2⟩ := r_check f ⟨told, ini, true⟩ (tk.set pc true) mv n pc v tks lvs (by omega)
        (st := ⟨0, rEnv n pc v tks lvs ++ [(12, int64 0)], rMem f ⟨told, ini, true⟩ (tk.set pc true) mv⟩) (by
          simp only [rMem, fnCells]
          generalize rowB (tk.set pc true) = B
          generalize rowI told = T
          simp -implicitDefEqProofs [])
      have hh := hf.hand
      rw [hn] at hh
      rcases hck2 with ⟨rfl, hany, mem, rfl⟩ | ⟨rfl, hany, rfl⟩
      · rw [if_pos hany]
        refine ⟨.ret, ⟨0, [(2, nilS), (3, int64 pc)], mem⟩, ?_, .inr ⟨rfl, hv0, .inl ⟨rfl, rfl, _, rfl⟩⟩⟩
        simp only [rMem, fnCells, hl, hiv, rEnv, List.cons_append, List.nil_append, Bool.not_true] at hck ⊢
        generalize rowB (tk.set pc true) = B2 at *
        generalize rowB tk = B at *
        generalize rowI told = T at *
        have hfit : pc + 1 ≤ B.length := by omega
        by_cases c4 : i.op = 21
        · have c5 : (v = 0) = True := eq_true (c3 c4)
          replace c4 : (i.op = 21) = True := eq_true c4
          simp -implicitDefEqProofs [x540L6, hlti, hlt, hgB, hgT, e1, hneg, hsB, setAll, hfit, lc, hget, hget0, htakes, c1, c2, c4, c5, eD, eD2, hck]
        · simp -implicitDefEqProofs [x540L6, hlti, hlt, hgB, hgT, e1, hneg, hsB, setAll, hfit, lc, hget, hget0, htakes, c1, c2, c4, eD, eD2, hck]
      · rw [if_neg (by rw [hany]; simp)]
        simp only
        rw [← nextS_nexts]
        obtain ⟨e3, s3, hhd, _, rfl, rfl⟩ := r_hands f ⟨told, ini, true⟩ (tk.set pc true) mv n pc v tks lvs hh hl
          (st := ⟨0, rEnv n pc v tks lvs ++ [(14, int64 0)], rMem f ⟨told, ini, true⟩ (tk.set pc true) mv⟩) (by
            simp only [rMem, fnCells]
            generalize rowB (tk.set pc true) = B
            generalize rowI told = T
            simp -implicitDefEqProofs [])
        have hs1l : (handS pc f.handlers.xs ⟨told, ini, true⟩).told.length = n := by rw [handS_len]; exact hl
        generalize handS pc f.handlers.xs ⟨told, ini, true⟩ = s1 at *
        have hnlt := nexts_lt hf hi
        rw [hn] at hnlt
        have hnx := ref_nexts hf hi
        have hnl2 : (nexts i pc).length ≤ 2 := by unfold nexts; split <;> (try split) <;> (try split) <;> simp
        obtain ⟨lv, hlv, hview⟩ : ∃ lv, Reads (tInt .i64) lv (castL (nexts i pc)) ∧ ((run9 535 [fnAV f, int64 pc] [] = some (nilS, []) ∧ lv = .val (.slice none 0 0)) ∨
            (run9 535 [fnAV f, int64 pc] [] = some (.osl 0 0 1 (nexts i pc).length (some (nexts i pc).length), [.flat (rowI (castL (nexts i pc))) false]) ∧ lv = .slice (rowI (castL (nexts i pc))) 0 (nexts i pc).length (some (nexts i pc).length))) := by
          rcases hnx with ⟨h1, h2⟩ | ⟨_, h2⟩
          · exact ⟨_, by rw [h1]; exact ⟨fun x hx => (by cases hx), by simp [castL], .inl ⟨rfl, rfl⟩⟩, .inl ⟨h2, rfl⟩⟩
          · refine ⟨_, ?_, .inr ⟨h2, rfl⟩⟩
            have hr := reads_row (tInt .i64) (castL (nexts i pc)) (cap := some (nexts i pc).length) (fun x hx => by
              simp only [castL, List.mem_map] at hx
              obtain ⟨q, hq, rfl⟩ := hx
              have := hnlt q hq
              exact wfI64.2 (by omega)) (by simp only [castL, List.length_map]; omega) (fun c hc => by cases hc; simp [castL])
            rwa [show (castL (nexts i pc)).length = (nexts i pc).length by simp [castL]] at hr
        obtain ⟨e4, s4, hnd, _, rfl, rfl⟩ := r_nexts f s1 (tk.set pc true) mv n pc v tks lvs hlv hnlt hs1l (by omega) (by omega)
          (st := ⟨0, rEnv n pc v tks lvs ++ [(16, .imm lv), (17, int64 0)], rMem f s1 (tk.set pc true) mv⟩) (by
            simp only [rMem, fnCells]
            generalize rowB (tk.set pc true) = B
            generalize rowI s1.told = T
            simp -implicitDefEqProofs [])
        have hs2l : (nextS (nexts i pc) (v - tks + lvs) s1).told.length = n := by rw [nextS_len]; exact hs1l
        generalize nextS (nexts i pc) (v - tks + lvs) s1 = s2 at *
        have hmn := r_min f s2 (tk.set pc true) mv n pc hlv (st := ⟨0, [(1, .optr 0 0), (4, int64 n), (5, .optr 1 0), (6, .osl 2 0 1 n (some n)), (8, int64 pc), (16, .imm lv), (18, int64 0)], rMem f s2 (tk.set pc true) mv⟩) (by
            simp only [rMem, fnCells]
            generalize rowB (tk.set pc true) = B
            generalize rowI s2.told = T
            simp -implicitDefEqProofs [])
        obtain ⟨e5, s5, hmin, _, rfl, rfl⟩ := hmn
        have hfit : pc + 1 ≤ (rowB tk).length := by omega
        obtain ⟨told1, todo1, ok1⟩ := s1
        obtain ⟨told2, todo2, ok2⟩ := s2
        simp only at hs1l hs2l
        unfold run9 at hview
        simp only [fnAV, hiv] at hview
        simp only [rMem, fnCells, hl, hiv, hs1l, hs2l, rEnv, List.cons_append, List.nil_append, Bool.not_true] at hck hhd hnd hmin
        cases ok2 with
        | false =>
          simp only [Bool.not_false] at hnd hmin
          refine ⟨.ret, ⟨0, [(2, nilS), (3, int64 pc)], rMem f ⟨told2, todo2, false⟩ (tk.set pc true) mv⟩, ?_, .inr ⟨trivial, hv0, .inl ⟨rfl, rfl, _, rfl⟩⟩⟩
          simp only [rMem, fnCells, hl, hiv, hs2l]
          generalize rowB (tk.set pc true) = B2 at *
          generalize rowB tk = B at *
          generalize rowI told = T at *
          generalize rowI told1 = T1 at *
          generalize rowI told2 = T2 at *
          generalize (nexts i pc).length = nn at *
          by_cases c4 : i.op = 21
          · have c5 : (v = 0) = True := eq_true (c3 c4)
            replace c4 : (i.op = 21) = True := eq_true c4
            rcases hview with ⟨hv1, rfl⟩ | ⟨hv1, rfl⟩ <;> simp -implicitDefEqProofs [x540L6, hlti, hlt, hgB, hgT, e1, hneg, hsB, setAll, hfit, lc, hget, hget0, htakes, c1, c2, c4, c5, eD, eD2, hck, hhd, hnd, hmin, hv1, frz_flat]
          · rcases hview with ⟨hv1, rfl⟩ | ⟨hv1, rfl⟩ <;> simp -implicitDefEqProofs [x540L6, hlti, hlt, hgB, hgT, e1, hneg, hsB, setAll, hfit, lc, hget, hget0, htakes, c1, c2, c4, eD, eD2, hck, hhd, hnd, hmin, hv1, frz_flat]
        | true =>
          simp only [Bool.not_true] at hnd hmin
          refine ⟨.normal, ⟨0, [(1, .optr 0 0), (4, int64 n), (5, .optr 1 0), (6, .osl 2 0 1 n (some n)), (8, int64 (minL pc (nexts i pc))), (16, .imm lv), (18, int64 (nexts i pc).length), (196, avb false)], rMem f ⟨told2, todo2, true⟩ (tk.set pc true) mv⟩, ?_, .inr ⟨trivial, hv0, .inr ⟨_, rfl, rfl, ?_⟩⟩⟩
          · simp only [rMem, fnCells, hl, hiv, hs2l]
            generalize rowB (tk.set pc true) = B2 at *
            generalize rowB tk = B at *
            generalize rowI told = T at *
            generalize rowI told1 = T1 at *
            generalize rowI told2 = T2 at *
            generalize minL pc (nexts i pc) = mm at *
            generalize (nexts i pc).length = nn at *
            by_cases c4 : i.op = 21
            · have c5 : (v = 0) = True := eq_true (c3 c4)
              replace c4 : (i.op = 21) = True := eq_true c4
              rcases hview with ⟨hv1, rfl⟩ | ⟨hv1, rfl⟩ <;> simp -implicitDefEqProofs [x540L6, hlti, hlt, hgB, hgT, e1, hneg, hsB, setAll, hfit, lc, hget, hget0, htakes, c1, c2, c4, c5, eD, eD2, hck, hhd, hnd, hmin, hv1, frz_flat]
            · rcases hview with ⟨hv1, rfl⟩ | ⟨hv1, rfl⟩ <;> simp -implicitDefEqProofs [x540L6, hlti, hlt, hgB, hgT, e1, hneg, hsB, setAll, hfit, lc, hget, hget0, htakes, c1, c2, c4, eD, eD2, hck, hhd, hnd, hmin, hv1, frz_flat]
          · simp only [rMem, fnCells]
            generalize rowB (tk.set pc true) = B
            generalize rowI told2 = T
            simp -implicitDefEqProofs []
end Go.EX

