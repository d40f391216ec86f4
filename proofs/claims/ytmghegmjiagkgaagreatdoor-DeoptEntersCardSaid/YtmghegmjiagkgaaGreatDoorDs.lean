/-
  EX: how great a RegFn is (what is asked of it: no less than 0, and not too great). Written by a program (gensizes.py).
-/
import Derived.Test.YtmghegmjiagkgaaGreatDoorDv
set_option linter.unusedVariables false
set_option linter.unusedSimpArgs false
namespace Go.EX

structure Exit1 where
  pc : Int
  slots : Sl tLoc

def tExit : Ty Exit1 := ⟨2, true, fun e => [.val (.int .i64 e.pc), e.slots.iv], fun e => (tInt .i64).wf e.pc, fun _ => rfl⟩

structure RegIns where
  op : Int
  to : Int
  args : Sl (tInt .i64)
  n : Int
  kind : Int
  exit : Int

def tRegIns : Ty RegIns := ⟨6, true, fun e => [.val (.int .u8 e.op), .val (.int .i64 e.to), e.args.iv, .val (.int .i64 e.n), .val (.int .u8 e.kind), .val (.int .i64 e.exit)],
  fun e => (tInt .u8).wf e.op ∧ (tInt .i64).wf e.to ∧ (tInt .i64).wf e.n ∧ (tInt .u8).wf e.kind ∧ (tInt .i64).wf e.exit, fun _ => rfl⟩

section
variable {code : Nat → Option XFun} {ext : Calls'}

theorem entriesOne (h0 : code 319 = some x319) (h1 : code 307 = some x307) (o : Entry) : ∃ z : Int, callW code ext 307 [.agg [int64 o.pc, int64 o.at', .imm o.slots.iv]] [] = some (int64 z, []) ∧ 0 ≤ z ∧ z ≤ 140737488355329 := by
  have hl := reads_len o.slots.ok
  have hb := o.slots.ok.2.1
  have e1 : IntKind.wrap .i64 (1 + (o.slots.xs.length : Int)) = 1 + (o.slots.xs.length : Int) := wrapI64 (by omega) (by omega)
  refine ⟨1 + (o.slots.xs.length : Int), ?_, by omega, by omega⟩
  rw [callW_fun code ext h1]
  simp -implicitDefEqProofs [x307, callW_fun code ext h0, x319, hl, e1]

theorem entriesSize (h0 : code 319 = some x319) (h1 : code 307 = some x307) (h2 : code 306 = some x306) {iv : IV} {xs : List Entry} (hr : Reads tEntry iv xs) : ∃ z : Int, callW code ext 306 [.imm iv] [] = some (int64 z, []) ∧ 0 ≤ z ∧ z ≤ 200000000000000 := by
  have hlen := reads_len hr
  have hb := hr.2.1
  have loop : ∃ e s', den code ext (.loop [0, 3, 4] x306L1) ⟨0, [(0, .imm iv), (3, int64 xs.length), (4, int64 0)], []⟩ = some (e, s') ∧ e ≠ .normal ∧
      (e = .exit 0 ∧ ∃ z i t, 0 ≤ z ∧ z ≤ 200000000000000 ∧ s' = ⟨0, [(0, .imm iv), (3, int64 z), (4, int64 i), (14, t)], []⟩) := by
    refine loop_rule (fun n s => ∃ (i : Nat) (z : Int), i + n = xs.length ∧ 0 ≤ z ∧ z ≤ 200000000000000 ∧ s = ⟨0, [(0, .imm iv), (3, int64 z), (4, int64 (i : Nat))], []⟩) _ ?_ xs.length _ ⟨0, xs.length, by simp, by omega, by omega, rfl⟩
    rintro n _ ⟨i, z, hi, hz0, hz1, rfl⟩
    by_cases hlt : i < xs.length
    · by_cases hz : z ≤ 1048576
      · obtain ⟨row, off, cap, rfl, hc, hcut, hget⟩ := reads_pos hr (List.getElem?_eq_getElem hlt)
        generalize xs[i] = o at hget
        simp only [tEntry] at hget
        obtain ⟨y, hy, hy0, hy1⟩ := entriesOne (code := code) (ext := ext) h0 h1 o
        have e1 : IntKind.wrap .i64 ((i : Int) + 1) = (i : Int) + 1 := wrapI64 (by omega) (by omega)
        have e2 : IntKind.wrap .i64 (z + y) = z + y := wrapI64 (by omega) (by omega)
        refine ⟨.normal, ⟨0, [(0, .imm (.slice row off xs.length cap)), (3, int64 (z + y)), (4, int64 ((i : Int) + 1))], []⟩, ?_, .inl ⟨rfl, n - 1, by omega, i + 1, z + y, by omega, by omega, by omega, rfl⟩⟩
        simp -implicitDefEqProofs [x306L1, hlt, hz, hget, hy, e1, e2]
      · refine ⟨.exit 0, ⟨0, [(0, .imm iv), (3, int64 z), (4, int64 (i : Nat)), (14, avb false)], []⟩, ?_, .inr ⟨by simp, rfl, z, i, _, hz0, hz1, rfl⟩⟩
        simp -implicitDefEqProofs [x306L1, hlt, hz, hlen]
    · have : i = xs.length := by omega
      subst this
      refine ⟨.exit 0, ⟨0, [(0, .imm iv), (3, int64 z), (4, int64 xs.length), (14, avb false)], []⟩, ?_, .inr ⟨by simp, rfl, z, xs.length, _, hz0, hz1, rfl⟩⟩
      simp -implicitDefEqProofs [x306L1, hlen]
  obtain ⟨e, s', h3, _, rfl, z, i, t, hz0, hz1, rfl⟩ := loop
  refine ⟨z, ?_, hz0, hz1⟩
  rw [callW_fun code ext h2]
  simp -implicitDefEqProofs [x306, hlen, h3]

theorem insnsOne (h0 : code 319 = some x319) (h1 : code 342 = some x342) (o : RegIns) : ∃ z : Int, callW code ext 342 [.agg [.imm (.val (.int .u8 o.op)), int64 o.to, .imm o.args.iv, int64 o.n, .imm (.val (.int .u8 o.kind)), int64 o.exit]] [] = some (int64 z, []) ∧ 0 ≤ z ∧ z ≤ 140737488355329 := by
  have hl := reads_len o.args.ok
  have hb := o.args.ok.2.1
  have e1 : IntKind.wrap .i64 (1 + (o.args.xs.length : Int)) = 1 + (o.args.xs.length : Int) := wrapI64 (by omega) (by omega)
  refine ⟨1 + (o.args.xs.length : Int), ?_, by omega, by omega⟩
  rw [callW_fun code ext h1]
  simp -implicitDefEqProofs [x342, callW_fun code ext h0, x319, hl, e1]

theorem insnsSize (h0 : code 319 = some x319) (h1 : code 342 = some x342) (h2 : code 343 = some x343) {iv : IV} {xs : List RegIns} (hr : Reads tRegIns iv xs) : ∃ z : Int, callW code ext 343 [.imm iv] [] = some (int64 z, []) ∧ 0 ≤ z ∧ z ≤ 200000000000000 := by
  have hlen := reads_len hr
  have hb := hr.2.1
  have loop : ∃ e s', den code ext (.loop [0, 3, 4] x343L1) ⟨0, [(0, .imm iv), (3, int64 xs.length), (4, int64 0)], []⟩ = some (e, s') ∧ e ≠ .normal ∧
      (e = .exit 0 ∧ ∃ z i t, 0 ≤ z ∧ z ≤ 200000000000000 ∧ s' = ⟨0, [(0, .imm iv), (3, int64 z), (4, int64 i), (14, t)], []⟩) := by
    refine loop_rule (fun n s => ∃ (i : Nat) (z : Int), i + n = xs.length ∧ 0 ≤ z ∧ z ≤ 200000000000000 ∧ s = ⟨0, [(0, .imm iv), (3, int64 z), (4, int64 (i : Nat))], []⟩) _ ?_ xs.length _ ⟨0, xs.length, by simp, by omega, by omega, rfl⟩
    rintro n _ ⟨i, z, hi, hz0, hz1, rfl⟩
    by_cases hlt : i < xs.length
    · by_cases hz : z ≤ 1048576
      · obtain ⟨row, off, cap, rfl, hc, hcut, hget⟩ := reads_pos hr (List.getElem?_eq_getElem hlt)
        generalize xs[i] = o at hget
        simp only [tRegIns] at hget
        obtain ⟨y, hy, hy0, hy1⟩ := insnsOne (code := code) (ext := ext) h0 h1 o
        have e1 : IntKind.wrap .i64 ((i : Int) + 1) = (i : Int) + 1 := wrapI64 (by omega) (by omega)
        have e2 : IntKind.wrap .i64 (z + y) = z + y := wrapI64 (by omega) (by omega)
        refine ⟨.normal, ⟨0, [(0, .imm (.slice row off xs.length cap)), (3, int64 (z + y)), (4, int64 ((i : Int) + 1))], []⟩, ?_, .inl ⟨rfl, n - 1, by omega, i + 1, z + y, by omega, by omega, by omega, rfl⟩⟩
        simp -implicitDefEqProofs [x343L1, hlt, hz, hget, hy, e1, e2]
      · refine ⟨.exit 0, ⟨0, [(0, .imm iv), (3, int64 z), (4, int64 (i : Nat)), (14, avb false)], []⟩, ?_, .inr ⟨by simp, rfl, z, i, _, hz0, hz1, rfl⟩⟩
        simp -implicitDefEqProofs [x343L1, hlt, hz, hlen]
    · have : i = xs.length := by omega
      subst this
      refine ⟨.exit 0, ⟨0, [(0, .imm iv), (3, int64 z), (4, int64 xs.length), (14, avb false)], []⟩, ?_, .inr ⟨by simp, rfl, z, xs.length, _, hz0, hz1, rfl⟩⟩
      simp -implicitDefEqProofs [x343L1, hlen]
  obtain ⟨e, s', h3, _, rfl, z, i, t, hz0, hz1, rfl⟩ := loop
  refine ⟨z, ?_, hz0, hz1⟩
  rw [callW_fun code ext h2]
  simp -implicitDefEqProofs [x343, hlen, h3]

theorem exitsOne (h0 : code 337 = some x337) (h1 : code 308 = some x308) (o : Exit1) : ∃ z : Int, callW code ext 308 [.agg [int64 o.pc, .imm o.slots.iv]] [] = some (int64 z, []) ∧ 0 ≤ z ∧ z ≤ 140737488355329 := by
  have hl := reads_len o.slots.ok
  have hb := o.slots.ok.2.1
  have e1 : IntKind.wrap .i64 (1 + (o.slots.xs.length : Int)) = 1 + (o.slots.xs.length : Int) := wrapI64 (by omega) (by omega)
  refine ⟨1 + (o.slots.xs.length : Int), ?_, by omega, by omega⟩
  rw [callW_fun code ext h1]
  simp -implicitDefEqProofs [x308, callW_fun code ext h0, x337, hl, e1]

theorem exitsSize (h0 : code 337 = some x337) (h1 : code 308 = some x308) (h2 : code 309 = some x309) {iv : IV} {xs : List Exit1} (hr : Reads tExit iv xs) : ∃ z : Int, callW code ext 309 [.imm iv] [] = some (int64 z, []) ∧ 0 ≤ z ∧ z ≤ 200000000000000 := by
  have hlen := reads_len hr
  have hb := hr.2.1
  have loop : ∃ e s', den code ext (.loop [0, 3, 4] x309L1) ⟨0, [(0, .imm iv), (3, int64 xs.length), (4, int64 0)], []⟩ = some (e, s') ∧ e ≠ .normal ∧
      (e = .exit 0 ∧ ∃ z i t, 0 ≤ z ∧ z ≤ 200000000000000 ∧ s' = ⟨0, [(0, .imm iv), (3, int64 z), (4, int64 i), (14, t)], []⟩) := by
    refine loop_rule (fun n s => ∃ (i : Nat) (z : Int), i + n = xs.length ∧ 0 ≤ z ∧ z ≤ 200000000000000 ∧ s = ⟨0, [(0, .imm iv), (3, int64 z), (4, int64 (i : Nat))], []⟩) _ ?_ xs.length _ ⟨0, xs.length, by simp, by omega, by omega, rfl⟩
    rintro n _ ⟨i, z, hi, hz0, hz1, rfl⟩
    by_cases hlt : i < xs.length
    · by_cases hz : z ≤ 1048576
      · obtain ⟨row, off, cap, rfl, hc, hcut, hget⟩ := reads_pos hr (List.getElem?_eq_getElem hlt)
        generalize xs[i] = o at hget
        simp only [tExit] at hget
        obtain ⟨y, hy, hy0, hy1⟩ := exitsOne (code := code) (ext := ext) h0 h1 o
        have e1 : IntKind.wrap .i64 ((i : Int) + 1) = (i : Int) + 1 := wrapI64 (by omega) (by omega)
        have e2 : IntKind.wrap .i64 (z + y) = z + y := wrapI64 (by omega) (by omega)
        refine ⟨.normal, ⟨0, [(0, .imm (.slice row off xs.length cap)), (3, int64 (z + y)), (4, int64 ((i : Int) + 1))], []⟩, ?_, .inl ⟨rfl, n - 1, by omega, i + 1, z + y, by omega, by omega, by omega, rfl⟩⟩
        simp -implicitDefEqProofs [x309L1, hlt, hz, hget, hy, e1, e2]
      · refine ⟨.exit 0, ⟨0, [(0, .imm iv), (3, int64 z), (4, int64 (i : Nat)), (14, avb false)], []⟩, ?_, .inr ⟨by simp, rfl, z, i, _, hz0, hz1, rfl⟩⟩
        simp -implicitDefEqProofs [x309L1, hlt, hz, hlen]
    · have : i = xs.length := by omega
      subst this
      refine ⟨.exit 0, ⟨0, [(0, .imm iv), (3, int64 z), (4, int64 xs.length), (14, avb false)], []⟩, ?_, .inr ⟨by simp, rfl, z, xs.length, _, hz0, hz1, rfl⟩⟩
      simp -implicitDefEqProofs [x309L1, hlen]
  obtain ⟨e, s', h3, _, rfl, z, i, t, hz0, hz1, rfl⟩ := loop
  refine ⟨z, ?_, hz0, hz1⟩
  rw [callW_fun code ext h2]
  simp -implicitDefEqProofs [x309, hlen, h3]

theorem regFnSize (h : ∀ g f, codeD g = some f → code g = some f) (N : Int) {ev cv xv : IV} {entries : List Entry} {insns : List RegIns} {exits : List Exit1} (hE : Reads tEntry ev entries) (hC : Reads tRegIns cv insns) (hX : Reads tExit xv exits) :
    ∃ z : Int, callW code ext 341 [.agg [int64 N, .imm ev, .imm cv, .imm xv]] [] = some (int64 z, []) ∧ 1 ≤ z ∧ z ≤ 1000000000000000 := by
  obtain ⟨a, ha, ha0, ha1⟩ := entriesSize (code := code) (ext := ext) (h 319 _ rfl) (h 307 _ rfl) (h 306 _ rfl) hE
  obtain ⟨b, hb, hb0, hb1⟩ := insnsSize (code := code) (ext := ext) (h 319 _ rfl) (h 342 _ rfl) (h 343 _ rfl) hC
  obtain ⟨c, hc, hc0, hc1⟩ := exitsSize (code := code) (ext := ext) (h 337 _ rfl) (h 308 _ rfl) (h 309 _ rfl) hX
  have e1 : IntKind.wrap .i64 (1 + a) = 1 + a := wrapI64 (by omega) (by omega)
  have e2 : IntKind.wrap .i64 (1 + a + b) = 1 + a + b := wrapI64 (by omega) (by omega)
  have e3 : IntKind.wrap .i64 (1 + a + b + c) = 1 + a + b + c := wrapI64 (by omega) (by omega)
  have e4 : IntKind.wrap .i64 (1 + a + c) = 1 + a + c := wrapI64 (by omega) (by omega)
  rw [callW_fun code ext (h 341 _ rfl)]
  by_cases c1 : 1 + a ≤ 1048576
  · by_cases c2 : 1 + a + b ≤ 1048576
    · exact ⟨1 + a + b + c, by simp -implicitDefEqProofs [x341, ha, hb, hc, e1, e2, e3, c1, c2], by omega, by omega⟩
    · exact ⟨1 + a + b, by simp -implicitDefEqProofs [x341, ha, hb, hc, e1, e2, e3, c1, c2], by omega, by omega⟩
  · exact ⟨1 + a, by simp -implicitDefEqProofs [x341, ha, hb, hc, e1, e2, e3, c1], by omega, by omega⟩

end
end Go.EX
