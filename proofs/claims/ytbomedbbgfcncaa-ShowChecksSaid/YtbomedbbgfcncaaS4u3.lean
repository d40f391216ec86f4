/-
  EX: law 04: show's may (the chains written by a program)
-/
import Derived.Test.YtbomedbbgfcncaaS4t
set_option linter.unusedVariables false
set_option linter.unusedSimpArgs false
namespace Go.EX

section
variable {code : Nat → Option XFun} {ext : Calls'}

set_option maxHeartbeats 1000000 in
theorem may3_0 (h : code 651 = some x651) (h' : code 656 = some x656) (h2 : code 653 = some x653) (h3 : code 759 = some x759) (h4 : code 749 = some x749) (h5 : code 650 = some x650) (h6 : code 652 = some x652) (T : List Obj) (hb : T.length ≤ 1048576) (k : Nat) (o : Obj) (ho : T[k]? = some o) (k3 : o.k = 3) (cS : ¬ o.s = .empty) : ∃ b : Bool, callW code ext 652 [.osl 0 0 5 T.length (some (T.length + 1)), .optr 0 (k * 5)] [.flat (storeRow T) false] = some (avb b, [.flat (storeRow T) false]) ∧ (b = true ↔ ObjOk T o) := by
  rw [callW_fun code ext h6]
  have hlen := reads_len o.l.ok
  have hok : ObjOk T o ↔ (o.s.size ≤ 4096 ∧ o.l.xs = [] ∧ o.room = 0 ∧ o.fn = 0) := by
    unfold ObjOk
    rw [if_pos k3]
  rw [hok]
  clear hok
  have g0 : (storeRow T)[k * 5]? = some (.val (.int .u8 o.k)) := cut_get (storeRow_get ho) 0 (by omega)
  have g1 : (storeRow T)[k * 5 + 1]? = some (.val (.string o.s)) := cut_get (storeRow_get ho) 1 (by omega)
  have g2 : (storeRow T)[k * 5 + 2]? = some (o.l.iv) := cut_get (storeRow_get ho) 2 (by omega)
  have g3 : (storeRow T)[k * 5 + 3]? = some (.val (.int .i64 o.room)) := cut_get (storeRow_get ho) 3 (by omega)
  have g4 : (storeRow T)[k * 5 + 4]? = some (.val (.int .i64 o.fn)) := cut_get (storeRow_get ho) 4 (by omega)
  have hba := anyBad_spec (ext := ext) h h' h2 h3 h4 T hb k o ho o.l.ok
  rw [any_held] at hba
  rw [show decide (o.k = 6) = false by simp; omega] at hba
  simp only [mayMem] at hba
  have cSt : (o.s = .empty) = False := eq_false cS
  by_cases hh : heldOf T o.l.xs false = true
  case neg =>
    have hhf : heldOf T o.l.xs false = false := by simpa using hh
    rw [hhf] at hba
    refine ⟨false, by simp -implicitDefEqProofs [x652, k3, g0, g1, g2, g3, g4, hlen, hba, cSt], ?_⟩
    refine ⟨fun c => (by cases c), ?_⟩
    rintro ⟨_, c, _⟩
    rw [c] at hhf
    cases hhf
  rw [hh] at hba
  by_cases cBn : o.s.size ≤ 4096
  case neg =>
    have cBt : ((o.s.size : Int) ≤ 4096) = False := eq_false (by omega)
    exact ⟨false, by simp -implicitDefEqProofs [x652, k3, g0, g1, g2, g3, g4, hlen, hba, cSt, cBt], by simp [cS, cBn]⟩
  have cBt : ((o.s.size : Int) ≤ 4096) = True := eq_true (by omega)
  by_cases cNn : o.l.xs = []
  case neg =>
    have cN0t : (o.l.xs = []) = False := eq_false cNn
    exact ⟨false, by simp -implicitDefEqProofs [x652, k3, g0, g1, g2, g3, g4, hlen, hba, cSt, cBt, cN0t], by simp [cS, cBn, cNn]⟩
  have cN0t : (o.l.xs = []) = True := eq_true cNn
  by_cases cZ : o.room = 0
  case neg =>
    have cZt : (o.room = 0) = False := eq_false cZ
    exact ⟨false, by simp -implicitDefEqProofs [x652, k3, g0, g1, g2, g3, g4, hlen, hba, cSt, cBt, cN0t, cZt], by simp [cS, cBn, cNn, cZ]⟩
  have cZt : (o.room = 0) = True := eq_true cZ
  by_cases cF : o.fn = 0
  case neg =>
    have cFt : (o.fn = 0) = False := eq_false cF
    exact ⟨false, by simp -implicitDefEqProofs [x652, k3, g0, g1, g2, g3, g4, hlen, hba, cSt, cBt, cN0t, cZt, cFt], by simp [cS, cBn, cNn, cZ, cF]⟩
  have cFt : (o.fn = 0) = True := eq_true cF
  exact ⟨true, by simp -implicitDefEqProofs [x652, k3, g0, g1, g2, g3, g4, hlen, hba, cSt, cBt, cN0t, cZt, cFt], by simp [cS, cBn, cNn, cZ, cF, hh]⟩

set_option maxHeartbeats 1000000 in
theorem may3_1 (h : code 651 = some x651) (h' : code 656 = some x656) (h2 : code 653 = some x653) (h3 : code 759 = some x759) (h4 : code 749 = some x749) (h5 : code 650 = some x650) (h6 : code 652 = some x652) (T : List Obj) (hb : T.length ≤ 1048576) (k : Nat) (o : Obj) (ho : T[k]? = some o) (k3 : o.k = 3) (cS : o.s = .empty) (cF : ¬ o.fn = 0) : ∃ b : Bool, callW code ext 652 [.osl 0 0 5 T.length (some (T.length + 1)), .optr 0 (k * 5)] [.flat (storeRow T) false] = some (avb b, [.flat (storeRow T) false]) ∧ (b = true ↔ ObjOk T o) := by
  rw [callW_fun code ext h6]
  have hlen := reads_len o.l.ok
  have hok : ObjOk T o ↔ (o.s.size ≤ 4096 ∧ o.l.xs = [] ∧ o.room = 0 ∧ o.fn = 0) := by
    unfold ObjOk
    rw [if_pos k3]
  rw [hok]
  clear hok
  have g0 : (storeRow T)[k * 5]? = some (.val (.int .u8 o.k)) := cut_get (storeRow_get ho) 0 (by omega)
  have g1 : (storeRow T)[k * 5 + 1]? = some (.val (.string o.s)) := cut_get (storeRow_get ho) 1 (by omega)
  have g2 : (storeRow T)[k * 5 + 2]? = some (o.l.iv) := cut_get (storeRow_get ho) 2 (by omega)
  have g3 : (storeRow T)[k * 5 + 3]? = some (.val (.int .i64 o.room)) := cut_get (storeRow_get ho) 3 (by omega)
  have g4 : (storeRow T)[k * 5 + 4]? = some (.val (.int .i64 o.fn)) := cut_get (storeRow_get ho) 4 (by omega)
  have hba := anyBad_spec (ext := ext) h h' h2 h3 h4 T hb k o ho o.l.ok
  rw [any_held] at hba
  rw [show decide (o.k = 6) = false by simp; omega] at hba
  simp only [mayMem] at hba
  have cSt : (o.s = .empty) = True := eq_true cS
  have cFt : (o.fn = 0) = False := eq_false cF
  by_cases hh : heldOf T o.l.xs false = true
  case neg =>
    have hhf : heldOf T o.l.xs false = false := by simpa using hh
    rw [hhf] at hba
    refine ⟨false, by simp -implicitDefEqProofs [x652, k3, g0, g1, g2, g3, g4, hlen, hba, cSt, cFt], ?_⟩
    refine ⟨fun c => (by cases c), ?_⟩
    rintro ⟨_, c, _⟩
    rw [c] at hhf
    cases hhf
  rw [hh] at hba
  have cB : o.s.size ≤ 4096 := by rw [cS]; decide
  have cBt : ((o.s.size : Int) ≤ 4096) = True := eq_true (by omega)
  by_cases cNn : o.l.xs = []
  case neg =>
    have cN0t : (o.l.xs = []) = False := eq_false cNn
    exact ⟨false, by simp -implicitDefEqProofs [x652, k3, g0, g1, g2, g3, g4, hlen, hba, cSt, cFt, cBt, cN0t], by simp [cS, cF, cB, cNn]⟩
  have cN0t : (o.l.xs = []) = True := eq_true cNn
  by_cases cZ : o.room = 0
  case neg =>
    have cZt : (o.room = 0) = False := eq_false cZ
    exact ⟨false, by simp -implicitDefEqProofs [x652, k3, g0, g1, g2, g3, g4, hlen, hba, cSt, cFt, cBt, cN0t, cZt], by simp [cS, cF, cB, cNn, cZ]⟩
  have cZt : (o.room = 0) = True := eq_true cZ
  exact ⟨false, by simp -implicitDefEqProofs [x652, k3, g0, g1, g2, g3, g4, hlen, hba, cSt, cFt, cBt, cN0t, cZt], by simp [cS, cF, cB, cNn, cZ, hh]⟩

set_option maxHeartbeats 1000000 in
theorem may3_2 (h : code 651 = some x651) (h' : code 656 = some x656) (h2 : code 653 = some x653) (h3 : code 759 = some x759) (h4 : code 749 = some x749) (h5 : code 650 = some x650) (h6 : code 652 = some x652) (T : List Obj) (hb : T.length ≤ 1048576) (k : Nat) (o : Obj) (ho : T[k]? = some o) (k3 : o.k = 3) (cS : o.s = .empty) (cF : o.fn = 0) (cR : ¬ (o.l.xs.length : Int) ≤ o.room) : ∃ b : Bool, callW code ext 652 [.osl 0 0 5 T.length (some (T.length + 1)), .optr 0 (k * 5)] [.flat (storeRow T) false] = some (avb b, [.flat (storeRow T) false]) ∧ (b = true ↔ ObjOk T o) := by
  rw [callW_fun code ext h6]
  have hlen := reads_len o.l.ok
  have hok : ObjOk T o ↔ (o.s.size ≤ 4096 ∧ o.l.xs = [] ∧ o.room = 0 ∧ o.fn = 0) := by
    unfold ObjOk
    rw [if_pos k3]
  rw [hok]
  clear hok
  have g0 : (storeRow T)[k * 5]? = some (.val (.int .u8 o.k)) := cut_get (storeRow_get ho) 0 (by omega)
  have g1 : (storeRow T)[k * 5 + 1]? = some (.val (.string o.s)) := cut_get (storeRow_get ho) 1 (by omega)
  have g2 : (storeRow T)[k * 5 + 2]? = some (o.l.iv) := cut_get (storeRow_get ho) 2 (by omega)
  have g3 : (storeRow T)[k * 5 + 3]? = some (.val (.int .i64 o.room)) := cut_get (storeRow_get ho) 3 (by omega)
  have g4 : (storeRow T)[k * 5 + 4]? = some (.val (.int .i64 o.fn)) := cut_get (storeRow_get ho) 4 (by omega)
  have hba := anyBad_spec (ext := ext) h h' h2 h3 h4 T hb k o ho o.l.ok
  rw [any_held] at hba
  rw [show decide (o.k = 6) = false by simp; omega] at hba
  simp only [mayMem] at hba
  have cSt : (o.s = .empty) = True := eq_true cS
  have cFt : (o.fn = 0) = True := eq_true cF
  have cRt : ((o.l.xs.length : Int) ≤ o.room) = False := eq_false cR
  by_cases hh : heldOf T o.l.xs false = true
  case neg =>
    have hhf : heldOf T o.l.xs false = false := by simpa using hh
    rw [hhf] at hba
    refine ⟨false, by simp -implicitDefEqProofs [x652, k3, g0, g1, g2, g3, g4, hlen, hba, cSt, cFt, cRt], ?_⟩
    refine ⟨fun c => (by cases c), ?_⟩
    rintro ⟨_, c, _⟩
    rw [c] at hhf
    cases hhf
  rw [hh] at hba
  have cB : o.s.size ≤ 4096 := by rw [cS]; decide
  have cBt : ((o.s.size : Int) ≤ 4096) = True := eq_true (by omega)
  by_cases cNn : o.l.xs = []
  case neg =>
    have cN0t : (o.l.xs = []) = False := eq_false cNn
    exact ⟨false, by simp -implicitDefEqProofs [x652, k3, g0, g1, g2, g3, g4, hlen, hba, cSt, cFt, cRt, cBt, cN0t], by simp [cS, cF, cR, cB, cNn]⟩
  have cN0t : (o.l.xs = []) = True := eq_true cNn
  by_cases cZ : o.room = 0
  case neg =>
    have cZt : (o.room = 0) = False := eq_false cZ
    exact ⟨false, by simp -implicitDefEqProofs [x652, k3, g0, g1, g2, g3, g4, hlen, hba, cSt, cFt, cRt, cBt, cN0t, cZt], by simp [cS, cF, cR, cB, cNn, cZ]⟩
  have cZt : (o.room = 0) = True := eq_true cZ
  exact ⟨true, by simp -implicitDefEqProofs [x652, k3, g0, g1, g2, g3, g4, hlen, hba, cSt, cFt, cRt, cBt, cN0t, cZt], by simp [cS, cF, cR, cB, cNn, cZ, hh]⟩

set_option maxHeartbeats 1000000 in
theorem may3_3 (h : code 651 = some x651) (h' : code 656 = some x656) (h2 : code 653 = some x653) (h3 : code 759 = some x759) (h4 : code 749 = some x749) (h5 : code 650 = some x650) (h6 : code 652 = some x652) (T : List Obj) (hb : T.length ≤ 1048576) (k : Nat) (o : Obj) (ho : T[k]? = some o) (k3 : o.k = 3) (cS : o.s = .empty) (cF : o.fn = 0) (cR : (o.l.xs.length : Int) ≤ o.room) (cQ : ¬ o.room ≤ 262144) : ∃ b : Bool, callW code ext 652 [.osl 0 0 5 T.length (some (T.length + 1)), .optr 0 (k * 5)] [.flat (storeRow T) false] = some (avb b, [.flat (storeRow T) false]) ∧ (b = true ↔ ObjOk T o) := by
  rw [callW_fun code ext h6]
  have hlen := reads_len o.l.ok
  have hok : ObjOk T o ↔ (o.s.size ≤ 4096 ∧ o.l.xs = [] ∧ o.room = 0 ∧ o.fn = 0) := by
    unfold ObjOk
    rw [if_pos k3]
  rw [hok]
  clear hok
  have g0 : (storeRow T)[k * 5]? = some (.val (.int .u8 o.k)) := cut_get (storeRow_get ho) 0 (by omega)
  have g1 : (storeRow T)[k * 5 + 1]? = some (.val (.string o.s)) := cut_get (storeRow_get ho) 1 (by omega)
  have g2 : (storeRow T)[k * 5 + 2]? = some (o.l.iv) := cut_get (storeRow_get ho) 2 (by omega)
  have g3 : (storeRow T)[k * 5 + 3]? = some (.val (.int .i64 o.room)) := cut_get (storeRow_get ho) 3 (by omega)
  have g4 : (storeRow T)[k * 5 + 4]? = some (.val (.int .i64 o.fn)) := cut_get (storeRow_get ho) 4 (by omega)
  have hba := anyBad_spec (ext := ext) h h' h2 h3 h4 T hb k o ho o.l.ok
  rw [any_held] at hba
  rw [show decide (o.k = 6) = false by simp; omega] at hba
  simp only [mayMem] at hba
  have cSt : (o.s = .empty) = True := eq_true cS
  have cFt : (o.fn = 0) = True := eq_true cF
  have cRt : ((o.l.xs.length : Int) ≤ o.room) = True := eq_true cR
  have cQt : (o.room ≤ 262144) = False := eq_false cQ
  by_cases hh : heldOf T o.l.xs false = true
  case neg =>
    have hhf : heldOf T o.l.xs false = false := by simpa using hh
    rw [hhf] at hba
    refine ⟨false, by simp -implicitDefEqProofs [x652, k3, g0, g1, g2, g3, g4, hlen, hba, cSt, cFt, cRt, cQt], ?_⟩
    refine ⟨fun c => (by cases c), ?_⟩
    rintro ⟨_, c, _⟩
    rw [c] at hhf
    cases hhf
  rw [hh] at hba
  have cB : o.s.size ≤ 4096 := by rw [cS]; decide
  have cBt : ((o.s.size : Int) ≤ 4096) = True := eq_true (by omega)
  by_cases cNn : o.l.xs = []
  case neg =>
    have cN0t : (o.l.xs = []) = False := eq_false cNn
    exact ⟨false, by simp -implicitDefEqProofs [x652, k3, g0, g1, g2, g3, g4, hlen, hba, cSt, cFt, cRt, cQt, cBt, cN0t], by simp [cS, cF, cR, cQ, cB, cNn]⟩
  have cN0t : (o.l.xs = []) = True := eq_true cNn
  by_cases cZ : o.room = 0
  case neg =>
    have cZt : (o.room = 0) = False := eq_false cZ
    exact ⟨false, by simp -implicitDefEqProofs [x652, k3, g0, g1, g2, g3, g4, hlen, hba, cSt, cFt, cRt, cQt, cBt, cN0t, cZt], by simp [cS, cF, cR, cQ, cB, cNn, cZ]⟩
  have cZt : (o.room = 0) = True := eq_true cZ
  exact ⟨true, by simp -implicitDefEqProofs [x652, k3, g0, g1, g2, g3, g4, hlen, hba, cSt, cFt, cRt, cQt, cBt, cN0t, cZt], by simp [cS, cF, cR, cQ, cB, cNn, cZ, hh]⟩

set_option maxHeartbeats 1000000 in
theorem may3_4 (h : code 651 = some x651) (h' : code 656 = some x656) (h2 : code 653 = some x653) (h3 : code 759 = some x759) (h4 : code 749 = some x749) (h5 : code 650 = some x650) (h6 : code 652 = some x652) (T : List Obj) (hb : T.length ≤ 1048576) (k : Nat) (o : Obj) (ho : T[k]? = some o) (k3 : o.k = 3) (cS : o.s = .empty) (cF : o.fn = 0) (cR : (o.l.xs.length : Int) ≤ o.room) (cQ : o.room ≤ 262144) : ∃ b : Bool, callW code ext 652 [.osl 0 0 5 T.length (some (T.length + 1)), .optr 0 (k * 5)] [.flat (storeRow T) false] = some (avb b, [.flat (storeRow T) false]) ∧ (b = true ↔ ObjOk T o) := by
  rw [callW_fun code ext h6]
  have hlen := reads_len o.l.ok
  have hok : ObjOk T o ↔ (o.s.size ≤ 4096 ∧ o.l.xs = [] ∧ o.room = 0 ∧ o.fn = 0) := by
    unfold ObjOk
    rw [if_pos k3]
  rw [hok]
  clear hok
  have g0 : (storeRow T)[k * 5]? = some (.val (.int .u8 o.k)) := cut_get (storeRow_get ho) 0 (by omega)
  have g1 : (storeRow T)[k * 5 + 1]? = some (.val (.string o.s)) := cut_get (storeRow_get ho) 1 (by omega)
  have g2 : (storeRow T)[k * 5 + 2]? = some (o.l.iv) := cut_get (storeRow_get ho) 2 (by omega)
  have g3 : (storeRow T)[k * 5 + 3]? = some (.val (.int .i64 o.room)) := cut_get (storeRow_get ho) 3 (by omega)
  have g4 : (storeRow T)[k * 5 + 4]? = some (.val (.int .i64 o.fn)) := cut_get (storeRow_get ho) 4 (by omega)
  have hba := anyBad_spec (ext := ext) h h' h2 h3 h4 T hb k o ho o.l.ok
  rw [any_held] at hba
  rw [show decide (o.k = 6) = false by simp; omega] at hba
  simp only [mayMem] at hba
  have cSt : (o.s = .empty) = True := eq_true cS
  have cFt : (o.fn = 0) = True := eq_true cF
  have cRt : ((o.l.xs.length : Int) ≤ o.room) = True := eq_true cR
  have cQt : (o.room ≤ 262144) = True := eq_true cQ
  by_cases hh : heldOf T o.l.xs false = true
  case neg =>
    have hhf : heldOf T o.l.xs false = false := by simpa using hh
    rw [hhf] at hba
    refine ⟨false, by simp -implicitDefEqProofs [x652, k3, g0, g1, g2, g3, g4, hlen, hba, cSt, cFt, cRt, cQt], ?_⟩
    refine ⟨fun c => (by cases c), ?_⟩
    rintro ⟨_, c, _⟩
    rw [c] at hhf
    cases hhf
  rw [hh] at hba
  have cB : o.s.size ≤ 4096 := by rw [cS]; decide
  have cBt : ((o.s.size : Int) ≤ 4096) = True := eq_true (by omega)
  by_cases cNn : o.l.xs = []
  case neg =>
    have cN0t : (o.l.xs = []) = False := eq_false cNn
    exact ⟨false, by simp -implicitDefEqProofs [x652, k3, g0, g1, g2, g3, g4, hlen, hba, cSt, cFt, cRt, cQt, cBt, cN0t], by simp [cS, cF, cR, cQ, cB, cNn]⟩
  have cN0t : (o.l.xs = []) = True := eq_true cNn
  by_cases cZ : o.room = 0
  case neg =>
    have cZt : (o.room = 0) = False := eq_false cZ
    exact ⟨false, by simp -implicitDefEqProofs [x652, k3, g0, g1, g2, g3, g4, hlen, hba, cSt, cFt, cRt, cQt, cBt, cN0t, cZt], by simp [cS, cF, cR, cQ, cB, cNn, cZ]⟩
  have cZt : (o.room = 0) = True := eq_true cZ
  exact ⟨true, by simp -implicitDefEqProofs [x652, k3, g0, g1, g2, g3, g4, hlen, hba, cSt, cFt, cRt, cQt, cBt, cN0t, cZt], by simp [cS, cF, cR, cQ, cB, cNn, cZ, hh]⟩

theorem may3 (h : code 651 = some x651) (h' : code 656 = some x656) (h2 : code 653 = some x653) (h3 : code 759 = some x759) (h4 : code 749 = some x749) (h5 : code 650 = some x650) (h6 : code 652 = some x652) (T : List Obj) (hb : T.length ≤ 1048576) (k : Nat) (o : Obj) (ho : T[k]? = some o) (k3 : o.k = 3) : ∃ b : Bool, callW code ext 652 [.osl 0 0 5 T.length (some (T.length + 1)), .optr 0 (k * 5)] [.flat (storeRow T) false] = some (avb b, [.flat (storeRow T) false]) ∧ (b = true ↔ ObjOk T o) := by
  by_cases cS : o.s = .empty
  case neg => exact may3_0 h h' h2 h3 h4 h5 h6 T hb k o ho k3 cS
  by_cases cF : o.fn = 0
  case neg => exact may3_1 h h' h2 h3 h4 h5 h6 T hb k o ho k3 cS cF
  by_cases cR : (o.l.xs.length : Int) ≤ o.room
  case neg => exact may3_2 h h' h2 h3 h4 h5 h6 T hb k o ho k3 cS cF cR
  by_cases cQ : o.room ≤ 262144
  case neg => exact may3_3 h h' h2 h3 h4 h5 h6 T hb k o ho k3 cS cF cR cQ
  exact may3_4 h h' h2 h3 h4 h5 h6 T hb k o ho k3 cS cF cR cQ

end
end Go.EX
