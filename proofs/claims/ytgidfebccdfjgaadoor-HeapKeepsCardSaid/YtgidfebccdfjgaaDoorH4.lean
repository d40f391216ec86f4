import Derived.Test.YtgidfebccdfjgaaDoorH3
set_option linter.unusedVariables false
set_option linter.unusedSimpArgs false
namespace Go.EX
section
variable {code : Nat → Option XFun} {ext : Calls'}
abbrev i64v (n : Nat) : IV := .val (.int .i64 (n : Int))
abbrev plLoop (b : Nat) : AObj := .loop [(2, .optr b 0)] [12] (.region [2, 3] [⟨(some 3), .mv (.t 12), none⟩]) x173L1 false
def pcells (l : List Nat) : List AV := l.map fun i => .imm (i64v i)
theorem pcells_snoc (l : List Nat) (x : Nat) : pcells l ++ [.imm (i64v x)] = pcells (l ++ [x]) := by simp [pcells]
theorem pcells_len (l : List Nat) : (pcells l).length = l.length := by simp [pcells]
theorem pcells_refs : ∀ l : List Nat, AV.refs.refsL (pcells l) = []
  | [] => rfl
  | x :: l => by show AV.refs.refsL (.imm (i64v x) :: pcells l) = []; simp [AV.refs.refsL, AV.refs, pcells_refs l]
theorem pcells_ren (f : Nat → Option Nat) : ∀ l : List Nat, AV.ren.renL f (pcells l) = pcells l
  | [] => rfl
  | x :: l => by show AV.ren.renL f (.imm (i64v x) :: pcells l) = _; simp [AV.ren.renL, AV.ren, pcells_ren f l]; rfl
theorem pcells_cut (l : List Nat) : cut (pcells l) 0 l.length = some (pcells l) := cut_mk (by rw [List.drop_zero]; exact List.take_of_length_le (by rw [pcells_len]; exact Nat.le_refl _)) (pcells_len l)
theorem body0 (L : AObj) (x : Nat) : den code ext x173L1 ⟨2, [(2, .optr 1 0), (3, int64 x)], [L, .rich [nilS]]⟩ = some (.normal, ⟨2, [], [L, .rich [.osl 3 0 1 1 none], .flat [i64v x] false, .flat [i64v x] false]⟩) := by
  simp -implicitDefEqProofs [x173L1, exAppendX, exAppend, elems]
theorem body1 (L : AObj) (y x : Nat) : den code ext x173L1 ⟨3, [(2, .optr 1 0), (3, int64 x)], [L, .rich [.osl 2 0 1 1 none], .flat [i64v y] false]⟩ = some (.normal, ⟨3, [], [L, .rich [.osl 4 0 1 2 none], .dead, .flat [i64v x] false, .rich (pcells [y, x])]⟩) := by
  simp -implicitDefEqProofs [x173L1, exAppendX, exAppend, exAppendR, elemsR, elems, pcells]
theorem body2 (L : AObj) (l : List Nat) (hl : l.length ≤ 1048576) (x : Nat) : den code ext x173L1 ⟨3, [(2, .optr 1 0), (3, int64 x)], [L, .rich [.osl 2 0 1 l.length none], .rich (pcells l)]⟩ = some (.normal, ⟨3, [], [L, .rich [.osl 4 0 1 (l.length + 1) none], .dead, .flat [i64v x] false, .rich (pcells (l ++ [x]))]⟩) := by
  have h1 := pcells_snoc l x
  have h4 := pcells_cut l
  have h5 : (l.length + 1) * 8 ≤ 140737488355328 := by omega
  simp -implicitDefEqProofs [x173L1, exAppendX, exAppend, exAppendR, elemsR, elems, h1, h4, h5]
theorem round0 (hy : code yieldNo = none) (x : Nat) : callW code ext yieldNo [.yld 0, int64 x] [plLoop 1, .rich [nilS]] = some (avb true, [plLoop 1, .rich [.osl 2 0 1 1 none], .flat [i64v x] false]) := by
  rw [callW_yield code ext hy]
  have hb := fun L => body0 (code := code) (ext := ext) L x
  simp -implicitDefEqProofs [exRound, Env.enterAt, Mem.trim, hb]
theorem round1 (hy : code yieldNo = none) (y x : Nat) : callW code ext yieldNo [.yld 0, int64 x] [plLoop 1, .rich [.osl 2 0 1 1 none], .flat [i64v y] false] = some (avb true, [plLoop 1, .rich [.osl 3 0 1 2 none], .dead, .rich (pcells [y, x])]) := by
  rw [callW_yield code ext hy]
  have hb := fun L => body1 (code := code) (ext := ext) L y x
  have h2 := pcells_refs
  have h3 := pcells_ren
  simp -implicitDefEqProofs [exRound, Env.enterAt, Mem.trim, hb, h2, h3]
theorem round2 (hy : code yieldNo = none) (l : List Nat) (hl : l.length ≤ 1048576) (x : Nat) : callW code ext yieldNo [.yld 0, int64 x] [plLoop 1, .rich [.osl 2 0 1 l.length none], .rich (pcells l)] = some (avb true, [plLoop 1, .rich [.osl 3 0 1 (l.length + 1) none], .dead, .rich (pcells (l ++ [x]))]) := by
  rw [callW_yield code ext hy]
  have hb := fun L => body2 (code := code) (ext := ext) L l hl x
  have h2 := pcells_refs
  have h3 := pcells_ren
  simp -implicitDefEqProofs [exRound, Env.enterAt, Mem.trim, hb, h2, h3]
end
end Go.EX

