import Derived.Test.YtfmpeoickjggiaaGreatDoorV9b
set_option linter.unusedVariables false
set_option linter.unusedSimpArgs false
namespace Go.EX
def numOk (np : Nat) (f : Fn) (pc : Nat) (i : Ins) : Bool :=
  isB i.op 1 31 && match (opRow i.op).1 with
    | 1 => isB i.a 0 f.consts.xs.length
    | 2 => isB i.a 0 f.locals
    | 3 => isB i.a 0 f.caps.xs.length
    | 4 => isB i.a 1 10
    | 5 => isB i.a (pc + 1) f.code.xs.length
    | 6 => isB i.a 0 (pc + 1)
    | 7 => isB i.a 0 257
    | 8 => isB i.a 1 np
    | _ => decide (i.a = 0)
attribute [local simp] ck_ren
set_option maxHeartbeats 4000000 in
theorem numbered_spec {pv : IV} {ps : List Fn} (hp : Reads tFn pv ps) (ms : List (Int × Int)) (f : Fn) (pc : Nat) (i : Ins) (hi : f.code.xs[pc]? = some i) :
    run9 259 [.optr 0 0, fnAV f, int64 pc] (ckMem pv ms) = some (avb (numOk ps.length f pc i), ckMem pv ms) := by
  unfold run9
  rw [callW_fun code9 (extInsert 766) (rfl : code9 259 = some x259)]
  have hlt := (List.getElem?_eq_some_iff.1 hi).1
  have hmem := List.mem_of_getElem? hi
  have hw := f.code.ok.1 i hmem
  have hb := f.code.ok.2.1
  have hop := wfU8.1 hw.1
  have hplen := reads_len hp
  have l3 := reads_len f.caps.ok
  have l4 := reads_len f.consts.ok
  obtain ⟨row, off, cap, hiv, hc, hcut, hget⟩ := reads_pos f.code.ok hi
  simp only [tIns] at hget
  have l5 := reads_len f.code.ok
  rw [hiv] at l5
  have e1 : IntKind.wrap .i64 ((pc : Int) + 1) = (pc : Int) + 1 := wrapI64 (by omega) (by omega)
  have eop : IntKind.wrap .i64 i.op = i.op := wrapI64 (by omega) (by omega)
  have his := fun a b c => is_spec a b c
  unfold run9 at his
  have hlti : ((pc : Int) < f.code.xs.length) := by omega
  unfold numOk
  cases h1 : isB i.op 1 31 with
  | false =>
    simp only [ckMem, fnAV, hiv]
    simp -implicitDefEqProofs [x259, hget, hlt, hlti, his, eop, h1]
  | true =>
    have h1' : 1 ≤ i.op ∧ i.op < 31 := by simpa [isB] using h1
    have hr0 := ck_row0 pv i.op (by omega) h1'.2
    have hrle := (opRow_le i.op).1
    generalize (opRow i.op).1 = k at hr0 hrle ⊢
    have hop0 : 0 ≤ i.op := by omega
    have hop31 : i.op < 31 := h1'.2
    have hk : k = 0 ∨ k = 1 ∨ k = 2 ∨ k = 3 ∨ k = 4 ∨ k = 5 ∨ k = 6 ∨ k = 7 ∨ k = 8 := by omega
    simp only [ckMem, fnAV, hiv]
    rcases hk with rfl | rfl | rfl | rfl | rfl | rfl | rfl | rfl | rfl <;>
      simp -implicitDefEqProofs [x259, hget, hlt, hlti, his, eop, h1, hr0, hop0, hop31, l3, l4, l5, hplen, e1]
end Go.EX

