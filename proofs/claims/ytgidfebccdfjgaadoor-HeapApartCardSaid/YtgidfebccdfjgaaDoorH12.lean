import Derived.Test.YtgidfebccdfjgaaDoorH11
set_option linter.unusedVariables false
set_option linter.unusedSimpArgs false
namespace Go.EX
theorem pcells_get {l : List Nat} {i y : Nat} (h : l[i]? = some y) : (pcells l)[i]? = some (.imm (i64v y)) := by simp [pcells, h]
theorem pcells_at {l : List Nat} {i y : Nat} (h : l[i]? = some y) : ∀ hh : i < (pcells l).length, (pcells l)[i] = .imm (i64v y) := fun hh => by
  have := pcells_get h
  rw [List.getElem?_eq_getElem hh] at this
  exact Option.some.inj this
theorem placesTo_lt (B : List Nat) (n : Nat) : (placesTo B n).Pairwise (· < ·) := List.Pairwise.filter _ List.pairwise_lt_range
theorem placesTo_mem {B : List Nat} {n i y : Nat} (h : (placesTo B n)[i]? = some y) : bitAt B y = true := by
  have := List.mem_of_getElem? h
  unfold placesTo at this
  exact (List.mem_filter.1 this).2
theorem placesTo_up {B : List Nat} {n i j y z : Nat} (h : (placesTo B n)[i]? = some y) (h2 : (placesTo B n)[j]? = some z) (hij : i < j) : y < z := by
  obtain ⟨h3, rfl⟩ := List.getElem?_eq_some_iff.1 h
  obtain ⟨h4, rfl⟩ := List.getElem?_eq_some_iff.1 h2
  exact List.pairwise_iff_getElem.1 (placesTo_lt B n) i j h3 h4 hij
section
variable {code : Nat → Option XFun} {ext : Calls'}
abbrev apEnv2 (N : Nat) (out : AV) (en i : Nat) : Env := [(0, int64 N), (5, .optr 0 0), (9, out), (10, int64 en), (11, int64 i)]
abbrev plMem (W B : List Nat) (e : Nat) (o : AObj) : Mem := [.rich [.osl 2 0 1 W.length (some W.length), .osl 3 0 1 B.length (some B.length), int64 e], o, .flat (urow W) false, .flat (urow B) false]
def plObj (l : List Nat) : AObj :=
  match l with
  | [y] => .flat [i64v y] false
  | l => .rich (pcells l)
set_option maxHeartbeats 1000000 in
theorem ap2_step (c : Heaps code ext) (N : Nat) {W B : List Nat} {e en i y : Nat} (hi : HI W B e) {l : List Nat} (hl : l.length ≤ 1048576) (hy : l[i]? = some y) (hb : bitAt B y = true) (hen : en ≤ y) :
    ∃ s', den code ext x315L2 ⟨0, apEnv2 N (.osl 1 0 1 l.length none) en i, plMem W B e (plObj l)⟩ = some (.normal, s') ∧ s'.tidy [0, 5, 9, 10, 11] = ⟨0, apEnv2 N (.osl 1 0 1 l.length none) (y + hd W y + 1) (i + 1), plMem W B e (plObj l)⟩ := by
  have hin := hi.inn y hb
  have htop := hi.top
  have hbd := hi.bd
  have hs := size_obj (ext := ext) c.small c.c175 (hi.obj hb)
  have hil := (List.getElem?_eq_some_iff.1 hy).1
  obtain ⟨n, hn⟩ : ∃ n, n = hd W y := ⟨_, rfl⟩
  rw [← hn] at hin hs ⊢
  have e1 : IntKind.wrap .i64 ((y : Int) + n) = (y : Int) + n := wrapI64 (by omega) (by omega)
  have e2 : IntKind.wrap .i64 ((y : Int) + n + 1) = (y : Int) + n + 1 := wrapI64 (by omega) (by omega)
  have e3 : IntKind.wrap .i64 ((i : Int) + 1) = (i : Int) + 1 := wrapI64 (by omega) (by omega)
  have e6 : IntKind.wrap .i64 1 = 1 := rfl
  have e4 : ¬ ((y : Int) < en) := by omega
  have e4' : ¬ (y < en) := by omega
  have e5 : (i : Int) < l.length := by omega
  have p1 := pcells_get hy
  have p2 := pcells_refs
  have p3 := pcells_ren
  have p4 := pcells_at hy
  have p5 := pcells_len l
  match l, hil, hy with
  | [], h, _ => simp at h
  | [z], h, hy =>
    obtain rfl : i = 0 := by simp at h; exact h
    obtain rfl : z = y := by simpa using hy
    refine ⟨⟨0, apEnv2 N (.osl 1 0 1 1 none) (z + n + 1) 1, plMem W B e (.flat [i64v z] false)⟩, ?_, ?_⟩
    · simp -implicitDefEqProofs [-intBin, b_lss, b_add, b_neq, x315L2, plObj, hs, e1, e2, e3, e4, e4', e6]
    · simp -implicitDefEqProofs [plObj]
  | a :: b :: r, h, hy =>
    have q : plObj (a :: b :: r) = .rich (pcells (a :: b :: r)) := rfl
    rw [q]
    generalize a :: b :: r = l at *
    refine ⟨⟨0, apEnv2 N (.osl 1 0 1 l.length none) (y + n + 1) (i + 1), plMem W B e (.rich (pcells l))⟩, ?_, ?_⟩
    · simp -implicitDefEqProofs [-intBin, b_lss, b_add, b_neq, x315L2, hs, e1, e2, e3, e4, e4', e5, e6, h, p1, p2, p3, p4, p5]
    · simp -implicitDefEqProofs [p1, p2, p3]
end
end Go.EX

