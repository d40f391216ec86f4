/-
  EX: law 04: show's may (the chains written by a program)
-/
import Derived.Test.YtbomedbbgfcncaaS4t
set_option linter.unusedVariables false
set_option linter.unusedSimpArgs false
namespace Go.EX

section
variable {code : Nat → Option XFun} {ext : Calls'}

set_option maxHeartbeats 1000000 in
theorem may4_0 (h : code 651 = some x651) (h' : code 656 = some x656) (h2 : code 653 = some x653) (h3 : code 759 = some x759) (h4 : code 749 = some x749) (h5 : code 650 = some x650) (h6 : code 652 = some x652) (T : List Obj) (hb : T.length ≤ 1048576) (k : Nat) (o : Obj) (ho : T[k]? = some o) (k4 : o.k = 4) (cS : ¬ o.s = .empty) : ∃ b : Bool, callW code ext 652 [.osl 0 0 5 T.length (some (T.length + 1)), .optr 0 (k * 5)] [.flat (storeRow T) false] = some (avb b, [.flat (storeRow T) false]) ∧ (b = true ↔ ObjOk T o) := by
  rw [callW_fun code ext h6]
  have hlen := reads_len o.l.ok
  have hok : ObjOk T o ↔ (o.s = .empty ∧ o.fn = 0 ∧ (o.l.xs.length : Int) ≤ 65536 ∧ (o.l.xs.length : Int) ≤ o.room ∧ o.room ≤ 262144 ∧ heldOf T o.l.xs false = true) := by
    unfold ObjOk
    rw [if_neg (by omega), if_pos k4]
  rw [hok]
  clear hok
  have g0 : (storeRow T)[k * 5]? = some (.val (.int .u8 o.k)) := cut_get (storeRow_get ho) 0 (by omega)
  have g1 : (storeRow T)[k * 5 + 1]? = some (.val (.string o.s)) := cut_get (storeRow_get ho) 1 (by omega)
  have g2 : (storeRow T)[k * 5 + 2]? = some (o.l.iv) := cut_get (storeRow_get ho) 2 (by omega)
  have g3 : (storeRow T)[k * 5 + 3]? = some (.val (.int .i64 o.room)) := cut_get (storeRow_get ho) 3 (by omega)
  have g4 : (storeRow T)[k * 5 + 4]? = some (.val (.int .i64 o.fn)) := cut_get (storeRow_get ho) 4 (by omega)
  have hba := anyBad_spec (ext := ext) h h' h2 h3 h4 T hb k o ho o.l.ok
  rw [any_held] at hba
  rw [show decide (o.k = 6) = false by simp; omega] at hba
  simp only [mayMem] at hba
  have cSt : (o.s = .empty) = False := eq_false cS
  by_cases hh : heldOf T o.l.xs false = true
  case neg =>
    have hhf : heldOf T o.l.xs false = false := by simpa using hh
    rw [hhf] at hba
    exact ⟨false, by simp -implicitDefEqProofs [x652, k4, g0, g1, g2, g3, g4, hlen, hba, cSt], by simp [hhf]⟩
  rw [hh] at hba
  exact ⟨false, by simp -implicitDefEqProofs [x652, k4, g0, g1, g2, g3, g4, hlen, hba, cSt], by simp [cS, hh]⟩

set_option maxHeartbeats 1000000 in
theorem may4_1 (h : code 651 = some x651) (h' : code 656 = some x656) (h2 : code 653 = some x653) (h3 : code 759 = some x759) (h4 : code 749 = some x749) (h5 : code 650 = some x650) (h6 : code 652 = some x652) (T : List Obj) (hb : T.length ≤ 1048576) (k : Nat) (o : Obj) (ho : T[k]? = some o) (k4 : o.k = 4) (cS : o.s = .empty) (cF : ¬ o.fn = 0) : ∃ b : Bool, callW code ext 652 [.osl 0 0 5 T.length (some (T.length + 1)), .optr 0 (k * 5)] [.flat (storeRow T) false] = some (avb b, [.flat (storeRow T) false]) ∧ (b = true ↔ ObjOk T o) := by
  rw [callW_fun code ext h6]
  have hlen := reads_len o.l.ok
  have hok : ObjOk T o ↔ (o.s = .empty ∧ o.fn = 0 ∧ (o.l.xs.length : Int) ≤ 65536 ∧ (o.l.xs.length : Int) ≤ o.room ∧ o.room ≤ 262144 ∧ heldOf T o.l.xs false = true) := by
    unfold ObjOk
    rw [if_neg (by omega), if_pos k4]
  rw [hok]
  clear hok
  have g0 : (storeRow T)[k * 5]? = some (.val (.int .u8 o.k)) := cut_get (storeRow_get ho) 0 (by omega)
  have g1 : (storeRow T)[k * 5 + 1]? = some (.val (.string o.s)) := cut_get (storeRow_get ho) 1 (by omega)
  have g2 : (storeRow T)[k * 5 + 2]? = some (o.l.iv) := cut_get (storeRow_get ho) 2 (by omega)
  have g3 : (storeRow T)[k * 5 + 3]? = some (.val (.int .i64 o.room)) := cut_get (storeRow_get ho) 3 (by omega)
  have g4 : (storeRow T)[k * 5 + 4]? = some (.val (.int .i64 o.fn)) := cut_get (storeRow_get ho) 4 (by omega)
  have hba := anyBad_spec (ext := ext) h h' h2 h3 h4 T hb k o ho o.l.ok
  rw [any_held] at hba
  rw [show decide (o.k = 6) = false by simp; omega] at hba
  simp only [mayMem] at hba
  have cSt : (o.s = .empty) = True := eq_true cS
  have cFt : (o.fn = 0) = False := eq_false cF
  by_cases hh : heldOf T o.l.xs false = true
  case neg =>
    have hhf : heldOf T o.l.xs false = false := by simpa using hh
    rw [hhf] at hba
    exact ⟨false, by simp -implicitDefEqProofs [x652, k4, g0, g1, g2, g3, g4, hlen, hba, cSt, cFt], by simp [hhf]⟩
  rw [hh] at hba
  exact ⟨false, by simp -implicitDefEqProofs [x652, k4, g0, g1, g2, g3, g4, hlen, hba, cSt, cFt], by simp [cS, cF, hh]⟩

set_option maxHeartbeats 1000000 in
theorem may4_2 (h : code 651 = some x651) (h' : code 656 = some x656) (h2 : code 653 = some x653) (h3 : code 759 = some x759) (h4 : code 749 = some x749) (h5 : code 650 = some x650) (h6 : code 652 = some x652) (T : List Obj) (hb : T.length ≤ 1048576) (k : Nat) (o : Obj) (ho : T[k]? = some o) (k4 : o.k = 4) (cS : o.s = .empty) (cF : o.fn = 0) (cR : ¬ (o.l.xs.length : Int) ≤ o.room) : ∃ b : Bool, callW code ext 652 [.osl 0 0 5 T.length (some (T.length + 1)), .optr 0 (k * 5)] [.flat (storeRow T) false] = some (avb b, [.flat (storeRow T) false]) ∧ (b = true ↔ ObjOk T o) := by
  rw [callW_fun code ext h6]
  have hlen := reads_len o.l.ok
  have hok : ObjOk T o ↔ (o.s = .empty ∧ o.fn = 0 ∧ (o.l.xs.length : Int) ≤ 65536 ∧ (o.l.xs.length : Int) ≤ o.room ∧ o.room ≤ 262144 ∧ heldOf T o.l.xs false = true) := by
    unfold ObjOk
    rw [if_neg (by omega), if_pos k4]
  rw [hok]
  clear hok
  have g0 : (storeRow T)[k * 5]? = some (.val (.int .u8 o.k)) := cut_get (storeRow_get ho) 0 (by omega)
  have g1 : (storeRow T)[k * 5 + 1]? = some (.val (.string o.s)) := cut_get (storeRow_get ho) 1 (by omega)
  have g2 : (storeRow T)[k * 5 + 2]? = some (o.l.iv) := cut_get (storeRow_get ho) 2 (by omega)
  have g3 : (storeRow T)[k * 5 + 3]? = some (.val (.int .i64 o.room)) := cut_get (storeRow_get ho) 3 (by omega)
  have g4 : (storeRow T)[k * 5 + 4]? = some (.val (.int .i64 o.fn)) := cut_get (storeRow_get ho) 4 (by omega)
  have hba := anyBad_spec (ext := ext) h h' h2 h3 h4 T hb k o ho o.l.ok
  rw [any_held] at hba
  rw [show decide (o.k = 6) = false by simp; omega] at hba
  simp only [mayMem] at hba
  have cSt : (o.s = .empty) = True := eq_true cS
  have cFt : (o.fn = 0) = True := eq_true cF
  have cRt : ((o.l.xs.length : Int) ≤ o.room) = False := eq_false cR
  by_cases hh : heldOf T o.l.xs false = true
  case neg =>
    have hhf : heldOf T o.l.xs false = false := by simpa using hh
    rw [hhf] at hba
    exact ⟨false, by simp -implicitDefEqProofs [x652, k4, g0, g1, g2, g3, g4, hlen, hba, cSt, cFt, cRt], by simp [hhf]⟩
  rw [hh] at hba
  exact ⟨false, by simp -implicitDefEqProofs [x652, k4, g0, g1, g2, g3, g4, hlen, hba, cSt, cFt, cRt], by simp [cS, cF, cR, hh]⟩

set_option maxHeartbeats 1000000 in
theorem may4_3 (h : code 651 = some x651) (h' : code 656 = some x656) (h2 : code 653 = some x653) (h3 : code 759 = some x759) (h4 : code 749 = some x749) (h5 : code 650 = some x650) (h6 : code 652 = some x652) (T : List Obj) (hb : T.length ≤ 1048576) (k : Nat) (o : Obj) (ho : T[k]? = some o) (k4 : o.k = 4) (cS : o.s = .empty) (cF : o.fn = 0) (cR : (o.l.xs.length : Int) ≤ o.room) (cQ : ¬ o.room ≤ 262144) : ∃ b : Bool, callW code ext 652 [.osl 0 0 5 T.length (some (T.length + 1)), .optr 0 (k * 5)] [.flat (storeRow T) false] = some (avb b, [.flat (storeRow T) false]) ∧ (b = true ↔ ObjOk T o) := by
  rw [callW_fun code ext h6]
  have hlen := reads_len o.l.ok
  have hok : ObjOk T o ↔ (o.s = .empty ∧ o.fn = 0 ∧ (o.l.xs.length : Int) ≤ 65536 ∧ (o.l.xs.length : Int) ≤ o.room ∧ o.room ≤ 262144 ∧ heldOf T o.l.xs false = true) := by
    unfold ObjOk
    rw [if_neg (by omega), if_pos k4]
  rw [hok]
  clear hok
  have g0 : (storeRow T)[k * 5]? = some (.val (.int .u8 o.k)) := cut_get (storeRow_get ho) 0 (by omega)
  have g1 : (storeRow T)[k * 5 + 1]? = some (.val (.string o.s)) := cut_get (storeRow_get ho) 1 (by omega)
  have g2 : (storeRow T)[k * 5 + 2]? = some (o.l.iv) := cut_get (storeRow_get ho) 2 (by omega)
  have g3 : (storeRow T)[k * 5 + 3]? = some (.val (.int .i64 o.room)) := cut_get (storeRow_get ho) 3 (by omega)
  have g4 : (storeRow T)[k * 5 + 4]? = some (.val (.int .i64 o.fn)) := cut_get (storeRow_get ho) 4 (by omega)
  have hba := anyBad_spec (ext := ext) h h' h2 h3 h4 T hb k o ho o.l.ok
  rw [any_held] at hba
  rw [show decide (o.k = 6) = false by simp; omega] at hba
  simp only [mayMem] at hba
  have cSt : (o.s = .empty) = True := eq_true cS
  have cFt : (o.fn = 0) = True := eq_true cF
  have cRt : ((o.l.xs.length : Int) ≤ o.room) = True := eq_true cR
  have cQt : (o.room ≤ 262144) = False := eq_false cQ
  by_cases hh : heldOf T o.l.xs false = true
  case neg =>
    have hhf : heldOf T o.l.xs false = false := by simpa using hh
    rw [hhf] at hba
    exact ⟨false, by simp -implicitDefEqProofs [x652, k4, g0, g1, g2, g3, g4, hlen, hba, cSt, cFt, cRt, cQt], by simp [hhf]⟩
  rw [hh] at hba
  exact ⟨false, by simp -implicitDefEqProofs [x652, k4, g0, g1, g2, g3, g4, hlen, hba, cSt, cFt, cRt, cQt], by simp [cS, cF, cR, cQ, hh]⟩

set_option maxHeartbeats 1000000 in
theorem may4_4 (h : code 651 = some x651) (h' : code 656 = some x656) (h2 : code 653 = some x653) (h3 : code 759 = some x759) (h4 : code 749 = some x749) (h5 : code 650 = some x650) (h6 : code 652 = some x652) (T : List Obj) (hb : T.length ≤ 1048576) (k : Nat) (o : Obj) (ho : T[k]? = some o) (k4 : o.k = 4) (cS : o.s = .empty) (cF : o.fn = 0) (cR : (o.l.xs.length : Int) ≤ o.room) (cQ : o.room ≤ 262144) : ∃ b : Bool, callW code ext 652 [.osl 0 0 5 T.length (some (T.length + 1)), .optr 0 (k * 5)] [.flat (storeRow T) false] = some (avb b, [.flat (storeRow T) false]) ∧ (b = true ↔ ObjOk T o) := by
  rw [callW_fun code ext h6]
  have hlen := reads_len o.l.ok
  have hok : ObjOk T o ↔ (o.s = .empty ∧ o.fn = 0 ∧ (o.l.xs.length : Int) ≤ 65536 ∧ (o.l.xs.length : Int) ≤ o.room ∧ o.room ≤ 262144 ∧ heldOf T o.l.xs false = true) := by
    unfold ObjOk
    rw [if_neg (by omega), if_pos k4]
  rw [hok]
  clear hok
  have g0 : (storeRow T)[k * 5]? = some (.val (.int .u8 o.k)) := cut_get (storeRow_get ho) 0 (by omega)
  have g1 : (storeRow T)[k * 5 + 1]? = some (.val (.string o.s)) := cut_get (storeRow_get ho) 1 (by omega)
  have g2 : (storeRow T)[k * 5 + 2]? = some (o.l.iv) := cut_get (storeRow_get ho) 2 (by omega)
  have g3 : (storeRow T)[k * 5 + 3]? = some (.val (.int .i64 o.room)) := cut_get (storeRow_get ho) 3 (by omega)
  have g4 : (storeRow T)[k * 5 + 4]? = some (.val (.int .i64 o.fn)) := cut_get (storeRow_get ho) 4 (by omega)
  have hba := anyBad_spec (ext := ext) h h' h2 h3 h4 T hb k o ho o.l.ok
  rw [any_held] at hba
  rw [show decide (o.k = 6) = false by simp; omega] at hba
  simp only [mayMem] at hba
  have cSt : (o.s = .empty) = True := eq_true cS
  have cFt : (o.fn = 0) = True := eq_true cF
  have cRt : ((o.l.xs.length : Int) ≤ o.room) = True := eq_true cR
  have cQt : (o.room ≤ 262144) = True := eq_true cQ
  by_cases hh : heldOf T o.l.xs false = true
  case neg =>
    have hhf : heldOf T o.l.xs false = false := by simpa using hh
    rw [hhf] at hba
    exact ⟨false, by simp -implicitDefEqProofs [x652, k4, g0, g1, g2, g3, g4, hlen, hba, cSt, cFt, cRt, cQt], by simp [hhf]⟩
  rw [hh] at hba
  by_cases cN4 : (o.l.xs.length : Int) ≤ 65536
  case neg =>
    have cN4t : ((o.l.xs.length : Int) ≤ 65536) = False := eq_false cN4
    exact ⟨false, by simp -implicitDefEqProofs [x652, k4, g0, g1, g2, g3, g4, hlen, hba, cSt, cFt, cRt, cQt, cN4t], by simp [cS, cF, cR, cQ, cN4]⟩
  have cN4t : ((o.l.xs.length : Int) ≤ 65536) = True := eq_true cN4
  exact ⟨true, by simp -implicitDefEqProofs [x652, k4, g0, g1, g2, g3, g4, hlen, hba, cSt, cFt, cRt, cQt, cN4t], by simp [cS, cF, cR, cQ, cN4, hh]⟩

theorem may4 (h : code 651 = some x651) (h' : code 656 = some x656) (h2 : code 653 = some x653) (h3 : code 759 = some x759) (h4 : code 749 = some x749) (h5 : code 650 = some x650) (h6 : code 652 = some x652) (T : List Obj) (hb : T.length ≤ 1048576) (k : Nat) (o : Obj) (ho : T[k]? = some o) (k4 : o.k = 4) : ∃ b : Bool, callW code ext 652 [.osl 0 0 5 T.length (some (T.length + 1)), .optr 0 (k * 5)] [.flat (storeRow T) false] = some (avb b, [.flat (storeRow T) false]) ∧ (b = true ↔ ObjOk T o) := by
  by_cases cS : o.s = .empty
  case neg => exact may4_0 h h' h2 h3 h4 h5 h6 T hb k o ho k4 cS
  by_cases cF : o.fn = 0
  case neg => exact may4_1 h h' h2 h3 h4 h5 h6 T hb k o ho k4 cS cF
  by_cases cR : (o.l.xs.length : Int) ≤ o.room
  case neg => exact may4_2 h h' h2 h3 h4 h5 h6 T hb k o ho k4 cS cF cR
  by_cases cQ : o.room ≤ 262144
  case neg => exact may4_3 h h' h2 h3 h4 h5 h6 T hb k o ho k4 cS cF cR cQ
  exact may4_4 h h' h2 h3 h4 h5 h6 T hb k o ho k4 cS cF cR cQ

end
end Go.EX
