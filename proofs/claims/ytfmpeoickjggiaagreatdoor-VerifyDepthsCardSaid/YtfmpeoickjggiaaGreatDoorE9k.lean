import Derived.Test.YtfmpeoickjggiaaGreatDoorE9a
import Derived.Test.YtfmpeoickjggiaaGreatDoorE9b
import Derived.Test.YtfmpeoickjggiaaGreatDoorV9h
set_option linter.unusedVariables false
set_option linter.unusedSimpArgs false
namespace Go.EX
theorem getM_putM : ∀ (ms : List (Int × Int)) (k v q : Int), getM (putM ms k v) q = if q = k then some v else getM ms q
  | [], k, v, q => by simp [putM, getM]
  | (a, b) :: r, k, v, q => by
    by_cases h : k = a
    · subst h
      by_cases h2 : q = k
      · simp [putM, getM, h2]
      · simp [putM, getM, h2]
    · by_cases h2 : q = a
      · subst h2
        have : ¬ q = k := fun e => h e.symm
        simp [putM, getM, h, this]
      · simp [putM, getM, h, h2, getM_putM r]
structure Mk (np : Nat) (ml : List Int) (ms : List (Int × Int)) : Prop where
  len : ml.length = np
  at' : ∀ q : Nat, q < np → ml[q]? = some ((getM ms q).getD (-1))
  pos : ∀ (q v : Int), getM ms q = some v → 0 ≤ v
theorem mk_put {np : Nat} {ml : List Int} {ms : List (Int × Int)} (h : Mk np ml ms) (k fn : Nat) (hk : k < np) : Mk np (ml.set k fn) (putM ms k fn) := by
  refine ⟨by rw [List.length_set]; exact h.len, fun q hq => ?_, fun q v hv => ?_⟩
  · rw [getM_putM, List.getElem?_set]
    by_cases e : k = q
    · subst e
      rw [if_pos rfl, if_pos rfl, if_pos (by rw [h.len]; exact hq)]
      rfl
    · rw [if_neg e, if_neg (by omega)]
      exact h.at' q hq
  · rw [getM_putM] at hv
    split at hv
    · cases hv; omega
    · exact h.pos q v hv
abbrev kEnv (pv : IV) (fn np : Nat) (pc : Int) : Env := [(0, .imm pv), (1, int64 fn), (2, .osl 0 0 1 np none), (7, .optr 1 0), (8, int64 pc)]
set_option maxRecDepth 100000 in
set_option maxHeartbeats 8000000 in
theorem ref_code_step {pv : IV} {ps : List Fn} (hp : Reads tFn pv ps) {ml : List Int} {ms : List (Int × Int)} (hm : Mk ps.length ml ms) (mv : Bool) (fn : Nat) (f : Fn) (hf : ps[fn]? = some f) (pc : Nat) (i : Ins) (hi : f.code.xs[pc]? = some i) :
    ∃ e s', den code9 (extInsert 766) x538L1 ⟨1, kEnv pv fn ps.length pc, [.flat (rowI ml) mv, .rich (fnCells f)]⟩ = some (e, s') ∧
      ((e = .normal ∧ (codeStep ps fn f ms pc i).1 = true ∧ ∃ ml2, Mk ps.length ml2 (codeStep ps fn f ms pc i).2 ∧ s' = ⟨1, kEnv pv fn ps.length ((pc : Int) + 1), [.flat (rowI ml2) mv, .rich (fnCells f), .rich [.imm (.val (.int .u8 i.op)), int64 i.a]]⟩) ∨
       (e = .ret ∧ (codeStep ps fn f ms pc i).1 = false ∧ (codeGo ps fn f (f.code.xs.drop pc) pc ms).1 = pc ∧ s' = ⟨1, [(6, int64 pc)], [.flat (rowI ml) mv, .rich (fnCells f), .rich [.imm (.val (.int .u8 i.op)), int64 i.a]]⟩)) := by
  have hlt := (List.getElem?_eq_some_iff.1 hi).1
  have hb := f.code.ok.2.1
  have hnum := ref_number hp f pc i hi
  have hends := ref_ends i.op
  have l5 := reads_len f.code.ok
  obtain ⟨row, off, cap, hiv, hc, hcut, hget⟩ := reads_pos f.code.ok hi
  simp only [tIns] at hget
  rw [hiv] at l5
  have hlti : ((pc : Int) < f.code.xs.length) := by omega
  have e1 : IntKind.wrap .i64 ((pc : Int) + 1) = (pc : Int) + 1 := wrapI64 (by omega) (by omega)
  have e2 : IntKind.wrap .i64 ((f.code.xs.length : Int) - 1) = (f.code.xs.length : Int) - 1 := wrapI64 (by omega) (by omega)
  have hfail : (codeStep ps fn f ms pc i).1 = false → (codeGo ps fn f (f.code.xs.drop pc) pc ms).1 = pc := by
    intro h
    rw [codeGo_drop hi, if_neg (by rw [h]; simp)]
  unfold run9 at hnum hends
  simp only [fnAV, hiv] at hnum
  cases hn : numOk ps.length f pc i with
  | false =>
    rw [hn] at hnum
    have hst : codeStep ps fn f ms pc i = (false, ms) := by unfold codeStep; simp [hn]
    refine ⟨.ret, _, ?_, .inr ⟨rfl, by rw [hst], hfail (by rw [hst]), rfl⟩⟩
    simp only [fnCells, hiv]
    generalize rowI ml = R
    simp -implicitDefEqProofs [x538L1, hlt, hlti, hget, l5, hnum]
  | true =>
    rw [hn] at hnum
    by_cases hq : (pc : Int) = (f.code.xs.length : Int) - 1
    · by_cases hen : i.op = 28 ∨ i.op = 29 ∨ i.op = 21
      · have hst : codeStep ps fn f ms pc i = (true, ms) := by
          have h26 : ¬ i.op = 26 := by omega
          unfold codeStep
          rcases hen with h | h | h <;> simp [hn, lastBad, h]
        have hb2 : (!(decide (i.op ≠ 28) && decide (i.op ≠ 29) && decide (i.op ≠ 21))) = true := by rcases hen with h | h | h <;> simp [h]
        rw [hb2] at hends
        have h26 : (i.op = 26) = False := eq_false (by omega)
        have hqt : ((pc : Int) = (f.code.xs.length : Int) - 1) = True := eq_true hq
        refine ⟨.normal, _, ?_, .inl ⟨rfl, by rw [hst], ml, by rw [hst]; exact hm, rfl⟩⟩
        simp only [fnCells, hiv]
        generalize rowI ml = R
        simp -implicitDefEqProofs [x538L1, hlt, hlti, hget, l5, hnum, e1, e2, hqt, hends, h26]
      · have hst : codeStep ps fn f ms pc i = (false, ms) := by
          have hl : lastBad f pc i = true := by simp [lastBad, hq]; omega
          unfold codeStep
          rw [if_pos (.inr hl)]
        have hb2 : (!(decide (i.op ≠ 28) && decide (i.op ≠ 29) && decide (i.op ≠ 21))) = false := by simp; omega
        rw [hb2] at hends
        have hqt : ((pc : Int) = (f.code.xs.length : Int) - 1) = True := eq_true hq
        refine ⟨.ret, _, ?_, .inr ⟨rfl, by rw [hst], hfail (by rw [hst]), rfl⟩⟩
        simp only [fnCells, hiv]
        generalize rowI ml = R
        simp -implicitDefEqProofs [x538L1, hlt, hlti, hget, l5, hnum, e1, e2, hqt, hends]
    · have hqf : ((pc : Int) = (f.code.xs.length : Int) - 1) = False := eq_false hq
      have hlb : lastBad f pc i = false := by simp [lastBad]; omega
      by_cases h26 : i.op = 26
      · have ha : 1 ≤ i.a ∧ i.a < ps.length := by
          unfold numOk at hn
          rw [h26] at hn
          have h3 : isB i.a 1 ps.length = true := by simpa [opRow, rowTab] using (Bool.and_eq_true _ _ ▸ hn).2
          simpa [isB] using h3
        obtain ⟨made, hmd⟩ : ∃ made : Nat, i.a = made := ⟨i.a.toNat, by omega⟩
        have hml : made < ps.length := by omega
        have hg := List.getElem?_eq_getElem hml
        generalize ps[made] = g at hg
        have hcaps := ref_caps f g
        have hplen := reads_len hp
        obtain ⟨prow, poff, pcap, rfl, _, _, hgetg⟩ := reads_pos hp hg
        simp only [tFn] at hgetg
        unfold run9 at hcaps
        simp only [fnAV, hiv] at hcaps
        have hmk := hm.at' made hml
        have hRg := rowI_get ml made
        rw [hmk] at hRg
        simp only [Option.map_some] at hRg
        have hRs := rowI_set ml made fn
        have hRl := rowI_len ml
        have hfit : made + 1 ≤ (rowI ml).length := by rw [hRl, hm.len]; omega
        have hstep : codeStep ps fn f ms pc i = makesR ms fn made f g := by
          unfold codeStep
          rw [if_neg (by rw [hn, hlb]; simp), if_pos h26, hmd]
          simp only [Int.toNat_natCast, hg]
        obtain ⟨op, a⟩ := i
        simp only at h26 hmd hget hends hnum hstep hfail
        subst h26
        subst hmd
        have hcap2 : ∀ (b : Bool), capsAll f g = b → ((getM ms made) = none ∨ (getM ms made) = some (fn : Int)) → ∃ e s', den code9 (extInsert 766) x538L1 ⟨1, kEnv (.slice prow poff ps.length pcap) fn ps.length pc, [.flat (rowI ml) mv, .rich (fnCells f)]⟩ = some (e, s') ∧
            ((e = .normal ∧ b = true ∧ s' = ⟨1, kEnv (.slice prow poff ps.length pcap) fn ps.length ((pc : Int) + 1), [.flat (rowI (ml.set made fn)) mv, .rich (fnCells f), .rich [.imm (.val (.int .u8 26)), int64 made]]⟩) ∨
             (e = .ret ∧ b = false ∧ s' = ⟨1, [(6, int64 pc)], [.flat (rowI ml) mv, .rich (fnCells f), .rich [.imm (.val (.int .u8 26)), int64 made]]⟩)) := by
          intro b hb2 hor
          rw [hb2] at hcaps
          cases b with
          | true =>
            refine ⟨.normal, _, ?_, .inl ⟨rfl, rfl, rfl⟩⟩
            simp only [fnCells, hiv]
            generalize rowI (ml.set made fn) = R2 at *
            generalize rowI ml = R at *
            have hmi : (made : Int) < ps.length := by omega
            rcases hor with h | h <;> rw [h] at hRg <;> simp only [Option.getD_none, Option.getD_some] at hRg <;> simp -implicitDefEqProofs [x538L1, hlt, hlti, hget, l5, hnum, e1, e2, hqf, hRg, hRs, hfit, hml, hmi, hgetg, hcaps, setAll, frz_flat]
          | false =>
            refine ⟨.ret, _, ?_, .inr ⟨rfl, rfl, rfl⟩⟩
            simp only [fnCells, hiv]
            generalize rowI (ml.set made fn) = R2 at *
            generalize rowI ml = R at *
            have hmi : (made : Int) < ps.length := by omega
            rcases hor with h | h <;> rw [h] at hRg <;> simp only [Option.getD_none, Option.getD_some] at hRg <;> simp -implicitDefEqProofs [x538L1, hlt, hlti, hget, l5, hnum, e1, e2, hqf, hRg, hRs, hfit, hml, hmi, hgetg, hcaps, setAll, frz_flat]
        have good : ((getM ms made) = none ∨ (getM ms made) = some (fn : Int)) → codeStep ps fn f ms pc ⟨26, made⟩ = (capsAll f g, putM ms made fn) := by
          intro hor
          rw [hstep]
          unfold makesR
          rcases hor with h | h <;> rw [h] <;> simp
        have fin : ((getM ms made) = none ∨ (getM ms made) = some (fn : Int)) → _ := fun hor => hcap2 _ rfl hor
        cases hgm : getM ms made with
        | none =>
          obtain ⟨e, s', h1, ⟨rfl, h2, rfl⟩ | ⟨rfl, h2, rfl⟩⟩ := fin (.inl hgm)
          · exact ⟨_, _, h1, .inl ⟨rfl, by rw [good (.inl hgm)]; exact h2, _, by rw [good (.inl hgm)]; exact mk_put hm made fn hml, rfl⟩⟩
          · exact ⟨_, _, h1, .inr ⟨rfl, by rw [good (.inl hgm)]; exact h2, hfail (by rw [good (.inl hgm)]; exact h2), rfl⟩⟩
        | some k =>
          by_cases hk : k = fn
          · subst hk
            obtain ⟨e, s', h1, ⟨rfl, h2, rfl⟩ | ⟨rfl, h2, rfl⟩⟩ := fin (.inr hgm)
            · exact ⟨_, _, h1, .inl ⟨rfl, by rw [good (.inr hgm)]; exact h2, _, by rw [good (.inr hgm)]; exact mk_put hm made fn hml, rfl⟩⟩
            · exact ⟨_, _, h1, .inr ⟨rfl, by rw [good (.inr hgm)]; exact h2, hfail (by rw [good (.inr hgm)]; exact h2), rfl⟩⟩
          · have hst : codeStep ps fn f ms pc ⟨26, made⟩ = (false, ms) := by
              rw [hstep]
              unfold makesR
              rw [hgm]
              simp [hk]
            have hk0 := hm.pos made k hgm
            refine ⟨.ret, _, ?_, .inr ⟨rfl, by rw [hst], hfail (by rw [hst]), rfl⟩⟩
            rw [hgm] at hRg
            simp only [Option.getD_some] at hRg
            have hmi : (made : Int) < ps.length := by omega
            simp only [fnCells, hiv]
            generalize rowI (ml.set made fn) = R2 at *
            generalize rowI ml = R at *
            simp -implicitDefEqProofs [x538L1, hlt, hlti, hget, l5, hnum, e1, e2, hqf, hRg, hk, hk0, hml, hmi, setAll, frz_flat]
      · have hst : codeStep ps fn f ms pc i = (true, ms) := by unfold codeStep; simp [hn, hlb, h26]
        refine ⟨.normal, _, ?_, .inl ⟨rfl, by rw [hst], ml, by rw [hst]; exact hm, rfl⟩⟩
        simp only [fnCells, hiv]
        generalize rowI ml = R
        simp -implicitDefEqProofs [x538L1, hlt, hlti, hget, l5, hnum, e1, e2, hqf, h26]
end Go.EX

