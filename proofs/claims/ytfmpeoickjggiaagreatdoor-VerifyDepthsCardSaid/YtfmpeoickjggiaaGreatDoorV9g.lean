import Derived.Test.YtfmpeoickjggiaaGreatDoorV9f
import Derived.Test.YtfmpeoickjggiaaGreatDoorV9k
set_option linter.unusedVariables false
set_option linter.unusedSimpArgs false
namespace Go.EX
def lastBad (f : Fn) (pc : Nat) (i : Ins) : Bool := decide ((pc : Int) = (f.code.xs.length : Int) - 1) && decide (i.op ≠ 28) && decide (i.op ≠ 29) && decide (i.op ≠ 21)
def codeStep (ps : List Fn) (fn : Nat) (f : Fn) (ms : List (Int × Int)) (pc : Nat) (i : Ins) : Bool × List (Int × Int) :=
  if numOk ps.length f pc i = false ∨ lastBad f pc i = true then (false, ms)
  else if i.op = 26 then match ps[i.a.toNat]? with
    | some g => makesR ms fn i.a f g
    | none => (false, ms)
  else (true, ms)
def codeGo (ps : List Fn) (fn : Nat) (f : Fn) : List Ins → Nat → List (Int × Int) → Int × List (Int × Int)
  | [], _, ms => (-1, ms)
  | i :: r, pc, ms => if (codeStep ps fn f ms pc i).1 = true then codeGo ps fn f r (pc + 1) (codeStep ps fn f ms pc i).2 else ((pc : Int), (codeStep ps fn f ms pc i).2)
attribute [local simp] ck_ren
set_option maxRecDepth 100000 in
set_option maxHeartbeats 8000000 in
theorem code_step {pv : IV} {ps : List Fn} (hp : Reads tFn pv ps) (ms : List (Int × Int)) (fn : Nat) (f : Fn) (hf : ps[fn]? = some f) (pc : Nat) (i : Ins) (hi : f.code.xs[pc]? = some i) :
    ∃ e s', den code9 (extInsert 766) x247L1 ⟨2, [(0, .optr 0 0), (1, int64 fn), (5, .optr 2 0), (17, .imm f.code.iv), (18, int64 f.code.xs.length), (19, int64 pc)], ckMem pv ms ++ [.rich (fnCells f)]⟩ = some (e, s') ∧
      ((e = .normal ∧ (codeStep ps fn f ms pc i).1 = true ∧ s' = ⟨2, [(0, .optr 0 0), (1, int64 fn), (5, .optr 2 0), (17, .imm f.code.iv), (18, int64 f.code.xs.length), (19, int64 ((pc : Int) + 1))], ckMem pv (codeStep ps fn f ms pc i).2 ++ [.rich (fnCells f), .rich [.imm (.val (.int .u8 i.op)), int64 i.a]]⟩) ∨
       (e = .ret ∧ (codeStep ps fn f ms pc i).1 = false ∧ s' = ⟨2, [(4, int64 pc)], ckMem pv (codeStep ps fn f ms pc i).2 ++ [.rich (fnCells f), .rich [.imm (.val (.int .u8 i.op)), int64 i.a]]⟩)) := by
  have hlt := (List.getElem?_eq_some_iff.1 hi).1
  have hw := f.code.ok.1 i (List.mem_of_getElem? hi)
  have hb := f.code.ok.2.1
  have hnum := numbered_spec hp ms f pc i hi
  have l5 := reads_len f.code.ok
  obtain ⟨row, off, cap, hiv, hc, hcut, hget⟩ := reads_pos f.code.ok hi
  simp only [tIns] at hget
  rw [hiv] at l5
  have hlti : ((pc : Int) < f.code.xs.length) := by omega
  have e1 : IntKind.wrap .i64 ((pc : Int) + 1) = (pc : Int) + 1 := wrapI64 (by omega) (by omega)
  have e2 : IntKind.wrap .i64 ((f.code.xs.length : Int) - 1) = (f.code.xs.length : Int) - 1 := wrapI64 (by omega) (by omega)
  have e3 : IntKind.wrap .i64 (pc : Int) = pc := wrapI64 (by omega) (by omega)
  unfold run9 at hnum
  simp only [ckMem, fnAV, hiv] at hnum
  have hge : numOk ps.length f pc i = true → i.op = 26 → ∃ (made : Nat) (g : Fn), i.a = made ∧ ps[made]? = some g := by
    intro h1 h2
    unfold numOk at h1
    rw [h2] at h1
    have h3 : isB i.a 1 ps.length = true := by simpa [opRow, rowTab] using (Bool.and_eq_true _ _ ▸ h1).2
    have h4 : 1 ≤ i.a ∧ i.a < ps.length := by simpa [isB] using h3
    exact ⟨i.a.toNat, ps[i.a.toNat]'(by omega), by omega, List.getElem?_eq_getElem _⟩
  by_cases hq : (pc : Int) = (f.code.xs.length : Int) - 1
  · have hq2 : (f.code.xs.length : Int) - 1 = pc := hq.symm
    by_cases h28 : i.op = 28
    · rw [h28] at hget
      cases hn : numOk ps.length f pc i with
      | false =>
        rw [hn] at hnum
        have hst : codeStep ps fn f ms pc i = (false, ms) := by unfold codeStep; simp [hq, hn, lastBad]
        refine ⟨.ret, ⟨2, [(4, int64 pc)], ckMem pv (codeStep ps fn f ms pc i).2 ++ [.rich (fnCells f), .rich [.imm (.val (.int .u8 i.op)), int64 i.a]]⟩, ?_, .inr ⟨rfl, by rw [hst], rfl⟩⟩
        rw [hst]
        simp only [ckMem, fnCells, hiv, List.cons_append, List.nil_append]
        rw [h28]
        simp -implicitDefEqProofs [x247L1, hget, hlt, hlti, l5, e1, e2, e3, hq2, hnum]
      | true =>
        rw [hn] at hnum
        have hst : codeStep ps fn f ms pc i = (true, ms) := by unfold codeStep; simp [hq, hn, h28, lastBad]
        refine ⟨.normal, ⟨2, [(0, .optr 0 0), (1, int64 fn), (5, .optr 2 0), (17, .imm f.code.iv), (18, int64 f.code.xs.length), (19, int64 ((pc : Int) + 1))], ckMem pv (codeStep ps fn f ms pc i).2 ++ [.rich (fnCells f), .rich [.imm (.val (.int .u8 i.op)), int64 i.a]]⟩, ?_, .inl ⟨rfl, by rw [hst], rfl⟩⟩
        rw [hst]
        simp only [ckMem, fnCells, hiv, List.cons_append, List.nil_append]
        rw [h28]
        simp -implicitDefEqProofs [x247L1, hget, hlt, hlti, l5, e1, e2, e3, hq2, hnum]
    · skip
      by_cases h29 : i.op = 29
      · rw [h29] at hget
        cases hn : numOk ps.length f pc i with
        | false =>
          rw [hn] at hnum
          have hst : codeStep ps fn f ms pc i = (false, ms) := by unfold codeStep; simp [hq, h28, hn, lastBad]
          refine ⟨.ret, ⟨2, [(4, int64 pc)], ckMem pv (codeStep ps fn f ms pc i).2 ++ [.rich (fnCells f), .rich [.imm (.val (.int .u8 i.op)), int64 i.a]]⟩, ?_, .inr ⟨rfl, by rw [hst], rfl⟩⟩
          rw [hst]
          simp only [ckMem, fnCells, hiv, List.cons_append, List.nil_append]
          rw [h29]
          simp -implicitDefEqProofs [x247L1, hget, hlt, hlti, l5, e1, e2, e3, hq2, h28, hnum]
        | true =>
          rw [hn] at hnum
          have hst : codeStep ps fn f ms pc i = (true, ms) := by unfold codeStep; simp [hq, h28, hn, h29, lastBad]
          refine ⟨.normal, ⟨2, [(0, .optr 0 0), (1, int64 fn), (5, .optr 2 0), (17, .imm f.code.iv), (18, int64 f.code.xs.length), (19, int64 ((pc : Int) + 1))], ckMem pv (codeStep ps fn f ms pc i).2 ++ [.rich (fnCells f), .rich [.imm (.val (.int .u8 i.op)), int64 i.a]]⟩, ?_, .inl ⟨rfl, by rw [hst], rfl⟩⟩
          rw [hst]
          simp only [ckMem, fnCells, hiv, List.cons_append, List.nil_append]
          rw [h29]
          simp -implicitDefEqProofs [x247L1, hget, hlt, hlti, l5, e1, e2, e3, hq2, h28, hnum]
      · skip
        by_cases h21 : i.op = 21
        · rw [h21] at hget
          cases hn : numOk ps.length f pc i with
          | false =>
            rw [hn] at hnum
            have hst : codeStep ps fn f ms pc i = (false, ms) := by unfold codeStep; simp [hq, h28, h29, hn, lastBad]
            refine ⟨.ret, ⟨2, [(4, int64 pc)], ckMem pv (codeStep ps fn f ms pc i).2 ++ [.rich (fnCells f), .rich [.imm (.val (.int .u8 i.op)), int64 i.a]]⟩, ?_, .inr ⟨rfl, by rw [hst], rfl⟩⟩
            rw [hst]
            simp only [ckMem, fnCells, hiv, List.cons_append, List.nil_append]
            rw [h21]
            simp -implicitDefEqProofs [x247L1, hget, hlt, hlti, l5, e1, e2, e3, hq2, h28, h29, hnum]
          | true =>
            rw [hn] at hnum
            have hst : codeStep ps fn f ms pc i = (true, ms) := by unfold codeStep; simp [hq, h28, h29, hn, h21, lastBad]
            refine ⟨.normal, ⟨2, [(0, .optr 0 0), (1, int64 fn), (5, .optr 2 0), (17, .imm f.code.iv), (18, int64 f.code.xs.length), (19, int64 ((pc : Int) + 1))], ckMem pv (codeStep ps fn f ms pc i).2 ++ [.rich (fnCells f), .rich [.imm (.val (.int .u8 i.op)), int64 i.a]]⟩, ?_, .inl ⟨rfl, by rw [hst], rfl⟩⟩
            rw [hst]
            simp only [ckMem, fnCells, hiv, List.cons_append, List.nil_append]
            rw [h21]
            simp -implicitDefEqProofs [x247L1, hget, hlt, hlti, l5, e1, e2, e3, hq2, h28, h29, hnum]
        · skip
          have hst : codeStep ps fn f ms pc i = (false, ms) := by unfold codeStep; simp [hq, h28, h29, h21, lastBad]
          refine ⟨.ret, ⟨2, [(4, int64 pc)], ckMem pv (codeStep ps fn f ms pc i).2 ++ [.rich (fnCells f), .rich [.imm (.val (.int .u8 i.op)), int64 i.a]]⟩, ?_, .inr ⟨rfl, by rw [hst], rfl⟩⟩
          rw [hst]
          simp only [ckMem, fnCells, hiv, List.cons_append, List.nil_append]
          cases hn : numOk ps.length f pc i with
          | false =>
            rw [hn] at hnum
            simp -implicitDefEqProofs [x247L1, hget, hlt, hlti, l5, e1, e2, e3, hq2, h28, h29, h21, hnum]
          | true =>
            rw [hn] at hnum
            simp -implicitDefEqProofs [x247L1, hget, hlt, hlti, l5, e1, e2, e3, hq2, h28, h29, h21, hnum]
  · skip
    cases hn : numOk ps.length f pc i with
    | false =>
      rw [hn] at hnum
      have hst : codeStep ps fn f ms pc i = (false, ms) := by unfold codeStep; simp [hq, hn, lastBad]
      refine ⟨.ret, ⟨2, [(4, int64 pc)], ckMem pv (codeStep ps fn f ms pc i).2 ++ [.rich (fnCells f), .rich [.imm (.val (.int .u8 i.op)), int64 i.a]]⟩, ?_, .inr ⟨rfl, by rw [hst], rfl⟩⟩
      rw [hst]
      simp only [ckMem, fnCells, hiv, List.cons_append, List.nil_append]
      simp -implicitDefEqProofs [x247L1, hget, hlt, hlti, l5, e1, e2, e3, hq, hnum]
    | true =>
      rw [hn] at hnum
      by_cases h26 : i.op = 26
      · obtain ⟨made, g, hma, hg⟩ := hge hn h26
        have hmk := makes_spec hp ms fn made f g hf hg
        unfold run9 at hmk
        simp only [ckMem, ← hma] at hmk
        have hg2 : ps[i.a.toNat]? = some g := by rw [hma]; simpa using hg
        rw [h26] at hget
        cases hb2 : makesR ms fn i.a f g with | mk b ms2 =>
        rw [hb2] at hmk
        cases b with
        | false =>
          have hst : codeStep ps fn f ms pc i = (false, ms2) := by unfold codeStep; simp [hq, hn, h26, hg2, hb2, lastBad]
          refine ⟨.ret, ⟨2, [(4, int64 pc)], ckMem pv (codeStep ps fn f ms pc i).2 ++ [.rich (fnCells f), .rich [.imm (.val (.int .u8 i.op)), int64 i.a]]⟩, ?_, .inr ⟨rfl, by rw [hst], rfl⟩⟩
          rw [hst]
          simp only [ckMem, fnCells, hiv, List.cons_append, List.nil_append]
          rw [h26]
          simp -implicitDefEqProofs [x247L1, hget, hlt, hlti, l5, e1, e2, e3, hq, hnum, hmk]
        | true =>
          have hst : codeStep ps fn f ms pc i = (true, ms2) := by unfold codeStep; simp [hq, hn, h26, hg2, hb2, lastBad]
          refine ⟨.normal, ⟨2, [(0, .optr 0 0), (1, int64 fn), (5, .optr 2 0), (17, .imm f.code.iv), (18, int64 f.code.xs.length), (19, int64 ((pc : Int) + 1))], ckMem pv (codeStep ps fn f ms pc i).2 ++ [.rich (fnCells f), .rich [.imm (.val (.int .u8 i.op)), int64 i.a]]⟩, ?_, .inl ⟨rfl, by rw [hst], rfl⟩⟩
          rw [hst]
          simp only [ckMem, fnCells, hiv, List.cons_append, List.nil_append]
          rw [h26]
          simp -implicitDefEqProofs [x247L1, hget, hlt, hlti, l5, e1, e2, e3, hq, hnum, hmk]
      · skip
        have hst : codeStep ps fn f ms pc i = (true, ms) := by unfold codeStep; simp [hq, hn, h26, lastBad]
        refine ⟨.normal, ⟨2, [(0, .optr 0 0), (1, int64 fn), (5, .optr 2 0), (17, .imm f.code.iv), (18, int64 f.code.xs.length), (19, int64 ((pc : Int) + 1))], ckMem pv (codeStep ps fn f ms pc i).2 ++ [.rich (fnCells f), .rich [.imm (.val (.int .u8 i.op)), int64 i.a]]⟩, ?_, .inl ⟨rfl, by rw [hst], rfl⟩⟩
        rw [hst]
        simp only [ckMem, fnCells, hiv, List.cons_append, List.nil_append]
        simp -implicitDefEqProofs [x247L1, hget, hlt, hlti, l5, e1, e2, e3, hq, hnum, h26]
end Go.EX

