import Derived.Test.YtfmpeoickjggiaaGreatDoorV9p
import Derived.Test.YtfmpeoickjggiaaGreatDoorV9h
set_option linter.unusedVariables false
set_option linter.unusedSimpArgs false
namespace Go.EX
def lookGo (ps : List Fn) : List Fn → Nat → List (Int × Int) → Option (Nat × Int) × List (Int × Int)
  | [], _, ms => (none, ms)
  | f :: r, fn, ms =>
    if headOk fn f = true then
      if (codeGo ps fn f f.code.xs 0 ms).1 < 0 then match depthsR f with
        | (none, p) => (some (fn, p), (codeGo ps fn f f.code.xs 0 ms).2)
        | (some _, _) => lookGo ps r (fn + 1) (codeGo ps fn f f.code.xs 0 ms).2
      else (some (fn, (codeGo ps fn f f.code.xs 0 ms).1), (codeGo ps fn f f.code.xs 0 ms).2)
    else (some (fn, 0), ms)
def unmade (ms : List (Int × Int)) : List Fn → Nat → Option Nat
  | [], _ => none
  | f :: r, fn => if getM ms fn = none ∧ 0 < f.caps.xs.length then some fn else unmade ms r (fn + 1)
theorem codeGo_all {ps : List Fn} {fn : Nat} {f : Fn} : ∀ (l : List Ins) (pc : Nat) (ms : List (Int × Int)), (codeGo ps fn f l pc ms).1 < 0 → ∀ (k : Nat) (i : Ins), l[k]? = some i → numOk ps.length f (pc + k) i = true ∧ lastBad f (pc + k) i = false
  | [], _, _, _, k, i, h => by simp at h
  | x :: r, pc, ms, hneg, k, i, h => by
    rw [codeGo] at hneg
    split at hneg
    · rename_i hst
      cases k with
      | succ k =>
        have := codeGo_all r (pc + 1) _ hneg k i (by simpa using h)
        rw [show pc + (k + 1) = pc + 1 + k by omega]
        exact this
      | zero =>
        simp at h; subst h
        unfold codeStep at hst
        split at hst
        · cases hst
        · rename_i hno
          rw [Nat.add_zero]
          cases h1 : numOk ps.length f pc x with
          | false => exact absurd (.inl h1) hno
          | true => cases h2 : lastBad f pc x with
            | false => exact ⟨rfl, rfl⟩
            | true => exact absurd (.inr h2) hno
    · simp only at hneg
      omega
theorem fnOk_of {ps : List Fn} {fn : Nat} {f : Fn} {ms : List (Int × Int)} (hh : headOk fn f = true) (hc : (codeGo ps fn f f.code.xs 0 ms).1 < 0) : FnOk ps.length f := by
  have hall := codeGo_all f.code.xs 0 ms hc
  unfold headOk at hh
  simp only [Bool.and_eq_true, isB, decide_eq_true_eq, Bool.not_eq_true'] at hh
  obtain ⟨⟨⟨⟨⟨_, h8⟩, _⟩, _⟩, _⟩, h12⟩ := hh
  refine ⟨fun pc i hi => by have := hall pc i hi; rwa [Nat.zero_add] at this, fun h hm => ?_, by omega, by omega⟩
  have := List.any_eq_false.1 h12 h hm
  simpa using this
attribute [local simp] ck_ren
set_option maxRecDepth 100000 in
set_option maxHeartbeats 4000000 in
theorem look_step {pv : IV} {ps : List Fn} (hp : Reads tFn pv ps) (ms : List (Int × Int)) (fn : Nat) (f : Fn) (hf : ps[fn]? = some f) (x3 x4 : Int) :
    ∃ e s', den code9 (extInsert 766) x661L1 ⟨0, [(0, .imm pv), (2, .optr 0 0), (3, int64 x3), (4, int64 x4), (20, int64 ps.length), (21, int64 fn)], ckMem pv ms⟩ = some (e, s') ∧
      ((∃ (pc : Int) (env : Env) (ms' : List (Int × Int)) (rest : Mem), 0 ≤ pc ∧ e = .exit 0 ∧ s' = ⟨0, [(0, .imm pv), (2, .optr 0 0), (3, int64 fn), (4, int64 pc)] ++ env, ckMem pv ms' ++ rest⟩ ∧ ∀ r, lookGo ps (f :: r) fn ms = (some (fn, pc), ms')) ∨
       (e = .normal ∧ ∃ ms', s'.tidy [0, 2, 3, 4, 20, 21] = ⟨0, [(0, .imm pv), (2, .optr 0 0), (3, int64 fn), (4, int64 (-1)), (20, int64 ps.length), (21, int64 ((fn : Int) + 1))], ckMem pv ms'⟩ ∧ ∀ r, lookGo ps (f :: r) fn ms = lookGo ps r (fn + 1) ms')) := by
  have hltf := (List.getElem?_eq_some_iff.1 hf).1
  have hbf := hp.2.1
  have hlf : (fn : Int) < ps.length := by omega
  have e1 : IntKind.wrap .i64 ((fn : Int) + 1) = (fn : Int) + 1 := wrapI64 (by omega) (by omega)
  have hhead := head_spec hp ms fn f hf
  have hcode := code_spec hp ms fn f hf
  cases hh : headOk fn f with
  | false =>
    rw [hh] at hhead
    unfold run9 at hhead
    refine ⟨.exit 0, ⟨0, [(0, .imm pv), (2, .optr 0 0), (3, int64 fn), (4, int64 0)] ++ [(20, int64 ps.length), (21, int64 fn), (27, avb true)], ckMem pv ms ++ []⟩, ?_, .inl ⟨0, _, ms, [], Int.le_refl _, rfl, rfl, fun r => by rw [lookGo, hh]; simp⟩⟩
    simp only [ckMem, List.append_nil] at hhead ⊢
    simp -implicitDefEqProofs [x661L1, hlf, hltf, hhead]
  | true =>
    rw [hh] at hhead
    unfold run9 at hhead hcode
    by_cases hneg : (codeGo ps fn f f.code.xs 0 ms).1 < 0
    · have hok := fnOk_of hh hneg
      have hdep := depths_spec hp (codeGo ps fn f f.code.xs 0 ms).2 fn f hf hok
      have hlg : ∀ r, lookGo ps (f :: r) fn ms = match depthsR f with
        | (none, p) => (some (fn, p), (codeGo ps fn f f.code.xs 0 ms).2)
        | (some _, _) => lookGo ps r (fn + 1) (codeGo ps fn f f.code.xs 0 ms).2 := fun r => by rw [lookGo, if_pos hh, if_pos hneg]
      generalize (codeGo ps fn f f.code.xs 0 ms).2 = ms2 at hdep hlg hcode
      generalize (codeGo ps fn f f.code.xs 0 ms).1 = pc1 at hneg hcode
      have hneg' : ¬ 0 ≤ pc1 := by omega
      unfold run9 at hdep
      rcases hdep with ⟨p, h1, h2⟩ | ⟨T, mv, h1, h2, h3⟩
      · refine ⟨.exit 0, ⟨0, [(0, .imm pv), (2, .optr 0 0), (3, int64 fn), (4, int64 p)] ++ [(20, int64 ps.length), (21, int64 fn), (40, avb true)], ckMem pv ms2 ++ []⟩, ?_, .inl ⟨p, _, ms2, [], by omega, rfl, rfl, fun r => by rw [hlg, h1]⟩⟩
        simp only [ckMem, List.append_nil] at hhead hcode h2 ⊢
        simp -implicitDefEqProofs [x661L1, hlf, hltf, hhead, hcode, h2, hneg', hneg]
      · refine ⟨.normal, ⟨0, [(0, .imm pv), (2, .optr 0 0), (3, int64 fn), (4, int64 (-1)), (20, int64 ps.length), (21, int64 ((fn : Int) + 1))], ckMem pv ms2 ++ [.flat (rowI T) mv]⟩, ?_, .inr ⟨rfl, ms2, ?_, fun r => by rw [hlg, h1]⟩⟩
        · simp only [ckMem, List.cons_append, List.nil_append] at hhead hcode h3 ⊢
          simp -implicitDefEqProofs [x661L1, hlf, hltf, hhead, hcode, h3, hneg', hneg, e1]
        · simp only [ckMem, List.cons_append, List.nil_append]
          simp -implicitDefEqProofs
    · have hlg : ∀ r, lookGo ps (f :: r) fn ms = (some (fn, (codeGo ps fn f f.code.xs 0 ms).1), (codeGo ps fn f f.code.xs 0 ms).2) := fun r => by rw [lookGo, if_pos hh, if_neg hneg]
      generalize (codeGo ps fn f f.code.xs 0 ms).2 = ms2 at hlg hcode
      generalize (codeGo ps fn f f.code.xs 0 ms).1 = pc1 at hneg hlg hcode
      have hneg' : 0 ≤ pc1 := by omega
      refine ⟨.exit 0, ⟨0, [(0, .imm pv), (2, .optr 0 0), (3, int64 fn), (4, int64 pc1)] ++ [(20, int64 ps.length), (21, int64 fn), (32, avb true)], ckMem pv ms2 ++ []⟩, ?_, .inl ⟨pc1, _, ms2, [], hneg', rfl, rfl, hlg⟩⟩
      simp only [ckMem, List.append_nil] at hhead hcode ⊢
      simp -implicitDefEqProofs [x661L1, hlf, hltf, hhead, hcode, hneg', hneg]
end Go.EX

