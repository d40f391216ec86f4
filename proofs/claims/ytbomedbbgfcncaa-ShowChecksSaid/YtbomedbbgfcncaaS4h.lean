/-
  EX: law 04: show's reach: what is led to is put behind.
-/
import Derived.Test.YtbomedbbgfcncaaS4g
set_option linter.unusedVariables false
set_option linter.unusedSimpArgs false
namespace Go.EX

section
variable {code : Nat → Option XFun} {ext : Calls'}

/-- The objects that 'add' is handed. -/
def addBase (T : List Obj) (out : List Nat) (o : AV) : Mem := [.rich [.osl 3 0 5 T.length (some (T.length + 1))], .rich [.omap 4], .rich [o], .flat (storeRow T) false, .map (seenL 3 out)]

abbrev addEnv (lv : IV) (n i : Int) : Env := [(1, .optr 0 0), (2, .optr 1 0), (3, .optr 2 0), (8, .imm lv), (9, int64 n), (10, int64 i)]

/-- Nothing is put behind. -/
theorem add_old (h : code 651 = some x651) (T : List Obj) (hb : T.length ≤ 1048576) (row : List IV) (off : Nat) (cap : Option Nat) (l : List Val) (hl : Reads tVal (.slice row off l.length cap) l) (out : List Nat) (i : Nat) (v : Val) (hv : l[i]? = some v)
    (hold : leadsOf T v = none ∨ ∃ k, leadsOf T v = some k ∧ k ∈ out) (k : Nat) (o : AV) (tail : Mem) (hk : (k = 5 ∧ ((out = [] ∧ o = nilS ∧ tail = []) ∨ (o = .osl 5 0 1 out.length none ∧ tail = [.rich (ptrs 3 out)]))) ∨ (k = 6 ∧ ((o = .osl 5 0 1 out.length none ∧ tail = [.rich (ptrs 3 out)]) ∨ (o = .osl 6 0 1 out.length none ∧ tail = [.dead, .rich (ptrs 3 out)])))) :
    ∃ s', den code ext x655L1 ⟨k, addEnv (.slice row off l.length cap) l.length i, addBase T out o ++ tail⟩ = some (.normal, s') ∧ s'.tidy [1, 2, 3, 8, 9, 10] = ⟨k, addEnv (.slice row off l.length cap) l.length ((i : Int) + 1), addBase T out o ++ tail⟩ := by
  have hlt := (List.getElem?_eq_some_iff.1 hv).1
  obtain ⟨row', off', cap', he, hc, hcut, hget⟩ := reads_pos hl hv
  cases he
  simp only [tVal] at hget
  have hb2 := hl.2.1
  have hw := (hl.1 v (List.mem_of_getElem? hv)).2
  have e1 : IntKind.wrap .i64 ((i : Int) + 1) = (i : Int) + 1 := wrapI64 (by omega) (by omega)
  have hld := leadsP_spec (ext := ext) h T hb v hw
  rcases hold with hn | ⟨q, hq, hm⟩
  · rw [hn, leadAV] at hld
    rcases hk with ⟨rfl, ⟨rfl, rfl, rfl⟩ | ⟨rfl, rfl⟩⟩ | ⟨rfl, ⟨rfl, rfl⟩ | ⟨rfl, rfl⟩⟩
    · refine ⟨⟨5, addEnv (.slice row off l.length cap) l.length ((i : Int) + 1), addBase T [] nilS ++ [.rich [.imm (.val (.int .u8 v.k)), int64 v.n]]⟩, ?_, ?_⟩
      · simp -implicitDefEqProofs [x655L1, addBase, hlt, hget, hld, e1]
      · simp -implicitDefEqProofs [addBase]
    · refine ⟨⟨5, addEnv (.slice row off l.length cap) l.length ((i : Int) + 1), addBase T out (.osl 5 0 1 out.length none) ++ [.rich (ptrs 3 out), .rich [.imm (.val (.int .u8 v.k)), int64 v.n]]⟩, ?_, ?_⟩
      · simp -implicitDefEqProofs [x655L1, addBase, hlt, hget, hld, e1]
      · simp -implicitDefEqProofs [addBase]
    · refine ⟨⟨6, addEnv (.slice row off l.length cap) l.length ((i : Int) + 1), addBase T out (.osl 5 0 1 out.length none) ++ [.rich (ptrs 3 out), .rich [.imm (.val (.int .u8 v.k)), int64 v.n]]⟩, ?_, ?_⟩
      · simp -implicitDefEqProofs [x655L1, addBase, hlt, hget, hld, e1]
      · simp -implicitDefEqProofs [addBase]
    · refine ⟨⟨6, addEnv (.slice row off l.length cap) l.length ((i : Int) + 1), addBase T out (.osl 6 0 1 out.length none) ++ [.dead, .rich (ptrs 3 out), .rich [.imm (.val (.int .u8 v.k)), int64 v.n]]⟩, ?_, ?_⟩
      · simp -implicitDefEqProofs [x655L1, addBase, hlt, hget, hld, e1]
      · simp -implicitDefEqProofs [addBase]
  · rw [hq, leadAV] at hld
    rcases findK_ptr 3 q out 0 with ⟨h1, _⟩ | ⟨_, j, hf, hj⟩
    · exact absurd hm h1
    simp only [Nat.zero_add] at hf
    rcases hk with ⟨rfl, ⟨rfl, rfl, rfl⟩ | ⟨rfl, rfl⟩⟩ | ⟨rfl, ⟨rfl, rfl⟩ | ⟨rfl, rfl⟩⟩
    · cases hm
    · refine ⟨⟨5, addEnv (.slice row off l.length cap) l.length ((i : Int) + 1), addBase T out (.osl 5 0 1 out.length none) ++ [.rich (ptrs 3 out), .rich [.imm (.val (.int .u8 v.k)), int64 v.n]]⟩, ?_, ?_⟩
      · simp -implicitDefEqProofs [x655L1, addBase, hlt, hget, hld, e1, hf, hj, AObj.hasCells]
      · simp -implicitDefEqProofs [addBase]
    · refine ⟨⟨6, addEnv (.slice row off l.length cap) l.length ((i : Int) + 1), addBase T out (.osl 5 0 1 out.length none) ++ [.rich (ptrs 3 out), .rich [.imm (.val (.int .u8 v.k)), int64 v.n]]⟩, ?_, ?_⟩
      · simp -implicitDefEqProofs [x655L1, addBase, hlt, hget, hld, e1, hf, hj, AObj.hasCells]
      · simp -implicitDefEqProofs [addBase]
    · refine ⟨⟨6, addEnv (.slice row off l.length cap) l.length ((i : Int) + 1), addBase T out (.osl 6 0 1 out.length none) ++ [.dead, .rich (ptrs 3 out), .rich [.imm (.val (.int .u8 v.k)), int64 v.n]]⟩, ?_, ?_⟩
      · simp -implicitDefEqProofs [x655L1, addBase, hlt, hget, hld, e1, hf, hj, AObj.hasCells]
      · simp -implicitDefEqProofs [addBase]

/-- One is put behind. -/
theorem add_new (h : code 651 = some x651) (T : List Obj) (hb : T.length ≤ 1048576) (row : List IV) (off : Nat) (cap : Option Nat) (l : List Val) (hl : Reads tVal (.slice row off l.length cap) l) (out : List Nat) (hbo : out.length ≤ 1048576) (i : Nat) (v : Val) (hv : l[i]? = some v)
    (q : Nat) (hq : leadsOf T v = some q) (hm : q ∉ out) (k : Nat) (o : AV) (tail : Mem) (hk : (k = 5 ∧ ((out = [] ∧ o = nilS ∧ tail = []) ∨ (o = .osl 5 0 1 out.length none ∧ tail = [.rich (ptrs 3 out)]))) ∨ (k = 6 ∧ ((o = .osl 5 0 1 out.length none ∧ tail = [.rich (ptrs 3 out)]) ∨ (o = .osl 6 0 1 out.length none ∧ tail = [.dead, .rich (ptrs 3 out)])))) :
    ∃ s', den code ext x655L1 ⟨k, addEnv (.slice row off l.length cap) l.length i, addBase T out o ++ tail⟩ = some (.normal, s') ∧
      s'.tidy [1, 2, 3, 8, 9, 10] = ⟨k, addEnv (.slice row off l.length cap) l.length ((i : Int) + 1), addBase T (out ++ [q]) (.osl k 0 1 (out.length + 1) none) ++ (if k = 5 then [] else [.dead]) ++ [.rich (ptrs 3 (out ++ [q]))]⟩ := by
  have hlt := (List.getElem?_eq_some_iff.1 hv).1
  obtain ⟨row', off', cap', he, hc, hcut, hget⟩ := reads_pos hl hv
  cases he
  simp only [tVal] at hget
  have hb2 := hl.2.1
  have hw := (hl.1 v (List.mem_of_getElem? hv)).2
  have e1 : IntKind.wrap .i64 ((i : Int) + 1) = (i : Int) + 1 := wrapI64 (by omega) (by omega)
  have hld := leadsP_spec (ext := ext) h T hb v hw
  rw [hq, leadAV] at hld
  rcases findK_ptr 3 q out 0 with ⟨_, hf⟩ | ⟨h1, _⟩
  case inr => exact absurd h1 hm
  have hcp := cut_ptrs 3 out
  have hs1 := seenL_snoc 3 q out
  have hs2 := ptrs_snoc 3 q out
  have hbd : (out.length + 1) * 8 ≤ 140737488355328 := by omega
  have h0 : seenL 3 [] = [] := rfl
  have h0' : [(AV.optr 3 (q * 5), avb true)] = seenL 3 [q] := rfl
  have h0'' : [AV.optr 3 (q * 5)] = ptrs 3 [q] := rfl
  have hf0 : ∀ (m : Mem) (x : AV), findK m 3 x [] 0 = some none := fun _ _ => rfl
  rcases hk with ⟨rfl, ⟨rfl, rfl, rfl⟩ | ⟨rfl, rfl⟩⟩ | ⟨rfl, ⟨rfl, rfl⟩ | ⟨rfl, rfl⟩⟩
  · refine ⟨⟨5, addEnv (.slice row off l.length cap) l.length ((i : Int) + 1), addBase T [q] (.osl 7 0 1 1 none) ++ [.rich [.imm (.val (.int .u8 v.k)), int64 v.n], .rich [.optr 3 (q * 5)], .rich [.optr 3 (q * 5)]]⟩, ?_, ?_⟩
    · simp -implicitDefEqProofs [x655L1, addBase, hlt, hget, hld, e1, h0, hf0, exAppendX, exAppend, exAppendR, elems, elemsR, h0']
    · simp -implicitDefEqProofs [addBase, ptrs]
  · refine ⟨⟨5, addEnv (.slice row off l.length cap) l.length ((i : Int) + 1), addBase T (out ++ [q]) (.osl 8 0 1 (out.length + 1) none) ++ [.dead, .rich [.imm (.val (.int .u8 v.k)), int64 v.n], .rich [.optr 3 (q * 5)], .rich (ptrs 3 (out ++ [q]))]⟩, ?_, ?_⟩
    · simp -implicitDefEqProofs [x655L1, addBase, hlt, hget, hld, e1, hf, AObj.hasCells, hs1, hs2, hcp, hbd, exAppendX, exAppend, exAppendR, elems, elemsR]
    · simp -implicitDefEqProofs [addBase]
  · refine ⟨⟨6, addEnv (.slice row off l.length cap) l.length ((i : Int) + 1), addBase T (out ++ [q]) (.osl 8 0 1 (out.length + 1) none) ++ [.dead, .rich [.imm (.val (.int .u8 v.k)), int64 v.n], .rich [.optr 3 (q * 5)], .rich (ptrs 3 (out ++ [q]))]⟩, ?_, ?_⟩
    · simp -implicitDefEqProofs [x655L1, addBase, hlt, hget, hld, e1, hf, AObj.hasCells, hs1, hs2, hcp, hbd, exAppendX, exAppend, exAppendR, elems, elemsR]
    · simp -implicitDefEqProofs [addBase]
  · refine ⟨⟨6, addEnv (.slice row off l.length cap) l.length ((i : Int) + 1), addBase T (out ++ [q]) (.osl 9 0 1 (out.length + 1) none) ++ [.dead, .dead, .rich [.imm (.val (.int .u8 v.k)), int64 v.n], .rich [.optr 3 (q * 5)], .rich (ptrs 3 (out ++ [q]))]⟩, ?_, ?_⟩
    · simp -implicitDefEqProofs [x655L1, addBase, hlt, hget, hld, e1, hf, AObj.hasCells, hs1, hs2, hcp, hbd, exAppendX, exAppend, exAppendR, elems, elemsR]
    · simp -implicitDefEqProofs [addBase]

end
end Go.EX
