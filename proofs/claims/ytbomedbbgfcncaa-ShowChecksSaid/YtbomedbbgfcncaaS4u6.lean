/-
  EX: law 04: show's may (the chains written by a program)
-/
import Derived.Test.YtbomedbbgfcncaaS4t
set_option linter.unusedVariables false
set_option linter.unusedSimpArgs false
namespace Go.EX

section
variable {code : Nat → Option XFun} {ext : Calls'}

set_option maxHeartbeats 1000000 in
theorem may6_0 (h : code 651 = some x651) (h' : code 656 = some x656) (h2 : code 653 = some x653) (h3 : code 759 = some x759) (h4 : code 749 = some x749) (h5 : code 650 = some x650) (h6 : code 652 = some x652) (T : List Obj) (hb : T.length ≤ 1048576) (k : Nat) (o : Obj) (ho : T[k]? = some o) (k6 : o.k = 6) (cS : ¬ o.s = .empty) : ∃ b : Bool, callW code ext 652 [.osl 0 0 5 T.length (some (T.length + 1)), .optr 0 (k * 5)] [.flat (storeRow T) false] = some (avb b, [.flat (storeRow T) false]) ∧ (b = true ↔ ObjOk T o) := by
  rw [callW_fun code ext h6]
  have hlen := reads_len o.l.ok
  have hok : ObjOk T o ↔ (o.s = .empty ∧ o.room = 0 ∧ 0 ≤ o.fn ∧ o.fn < 256 ∧ heldOf T o.l.xs true = true) := by
    unfold ObjOk
    rw [if_neg (by omega), if_neg (by omega), if_neg (by omega), if_pos k6]
  rw [hok]
  clear hok
  have g0 : (storeRow T)[k * 5]? = some (.val (.int .u8 o.k)) := cut_get (storeRow_get ho) 0 (by omega)
  have g1 : (storeRow T)[k * 5 + 1]? = some (.val (.string o.s)) := cut_get (storeRow_get ho) 1 (by omega)
  have g2 : (storeRow T)[k * 5 + 2]? = some (o.l.iv) := cut_get (storeRow_get ho) 2 (by omega)
  have g3 : (storeRow T)[k * 5 + 3]? = some (.val (.int .i64 o.room)) := cut_get (storeRow_get ho) 3 (by omega)
  have g4 : (storeRow T)[k * 5 + 4]? = some (.val (.int .i64 o.fn)) := cut_get (storeRow_get ho) 4 (by omega)
  have hba := anyBad_spec (ext := ext) h h' h2 h3 h4 T hb k o ho o.l.ok
  rw [any_held] at hba
  rw [show decide (o.k = 6) = true by simp [k6]] at hba
  simp only [mayMem] at hba
  have cSt : (o.s = .empty) = False := eq_false cS
  by_cases hh : heldOf T o.l.xs true = true
  case neg =>
    have hhf : heldOf T o.l.xs true = false := by simpa using hh
    rw [hhf] at hba
    exact ⟨false, by simp -implicitDefEqProofs [x652, k6, g0, g1, g2, g3, g4, hlen, hba, cSt], by simp [hhf]⟩
  rw [hh] at hba
  exact ⟨false, by simp -implicitDefEqProofs [x652, k6, g0, g1, g2, g3, g4, hlen, hba, cSt], by simp [cS, hh]⟩

set_option maxHeartbeats 1000000 in
theorem may6_1 (h : code 651 = some x651) (h' : code 656 = some x656) (h2 : code 653 = some x653) (h3 : code 759 = some x759) (h4 : code 749 = some x749) (h5 : code 650 = some x650) (h6 : code 652 = some x652) (T : List Obj) (hb : T.length ≤ 1048576) (k : Nat) (o : Obj) (ho : T[k]? = some o) (k6 : o.k = 6) (cS : o.s = .empty) (cF : ¬ o.fn = 0) : ∃ b : Bool, callW code ext 652 [.osl 0 0 5 T.length (some (T.length + 1)), .optr 0 (k * 5)] [.flat (storeRow T) false] = some (avb b, [.flat (storeRow T) false]) ∧ (b = true ↔ ObjOk T o) := by
  rw [callW_fun code ext h6]
  have hlen := reads_len o.l.ok
  have hok : ObjOk T o ↔ (o.s = .empty ∧ o.room = 0 ∧ 0 ≤ o.fn ∧ o.fn < 256 ∧ heldOf T o.l.xs true = true) := by
    unfold ObjOk
    rw [if_neg (by omega), if_neg (by omega), if_neg (by omega), if_pos k6]
  rw [hok]
  clear hok
  have g0 : (storeRow T)[k * 5]? = some (.val (.int .u8 o.k)) := cut_get (storeRow_get ho) 0 (by omega)
  have g1 : (storeRow T)[k * 5 + 1]? = some (.val (.string o.s)) := cut_get (storeRow_get ho) 1 (by omega)
  have g2 : (storeRow T)[k * 5 + 2]? = some (o.l.iv) := cut_get (storeRow_get ho) 2 (by omega)
  have g3 : (storeRow T)[k * 5 + 3]? = some (.val (.int .i64 o.room)) := cut_get (storeRow_get ho) 3 (by omega)
  have g4 : (storeRow T)[k * 5 + 4]? = some (.val (.int .i64 o.fn)) := cut_get (storeRow_get ho) 4 (by omega)
  have hba := anyBad_spec (ext := ext) h h' h2 h3 h4 T hb k o ho o.l.ok
  rw [any_held] at hba
  rw [show decide (o.k = 6) = true by simp [k6]] at hba
  simp only [mayMem] at hba
  have cSt : (o.s = .empty) = True := eq_true cS
  have cFt : (o.fn = 0) = False := eq_false cF
  by_cases hh : heldOf T o.l.xs true = true
  case neg =>
    have hhf : heldOf T o.l.xs true = false := by simpa using hh
    rw [hhf] at hba
    exact ⟨false, by simp -implicitDefEqProofs [x652, k6, g0, g1, g2, g3, g4, hlen, hba, cSt, cFt], by simp [hhf]⟩
  rw [hh] at hba
  by_cases cZ : o.room = 0
  case neg =>
    have cZt : (o.room = 0) = False := eq_false cZ
    first
    | (exfalso; omega)
    | exact ⟨false, by simp -implicitDefEqProofs [x652, k6, g0, g1, g2, g3, g4, hlen, hba, cSt, cFt, cZt], by simp [cS, cF, cZ]⟩
  have cZt : (o.room = 0) = True := eq_true cZ
  by_cases cG : 0 ≤ o.fn
  case neg =>
    have cGt : (0 ≤ o.fn) = False := eq_false cG
    first
    | (exfalso; omega)
    | exact ⟨false, by simp -implicitDefEqProofs [x652, k6, g0, g1, g2, g3, g4, hlen, hba, cSt, cFt, cZt, cGt], by simp [cS, cF, cZ, cG]⟩
  have cGt : (0 ≤ o.fn) = True := eq_true cG
  by_cases cH : o.fn < 256
  case neg =>
    have cHt : (o.fn < 256) = False := eq_false cH
    first
    | (exfalso; omega)
    | exact ⟨false, by simp -implicitDefEqProofs [x652, k6, g0, g1, g2, g3, g4, hlen, hba, cSt, cFt, cZt, cGt, cHt], by simp [cS, cF, cZ, cG, cH]⟩
  have cHt : (o.fn < 256) = True := eq_true cH
  exact ⟨true, by simp -implicitDefEqProofs [x652, k6, g0, g1, g2, g3, g4, hlen, hba, cSt, cFt, cZt, cGt, cHt], by simp [cS, cF, cZ, cG, cH, hh]⟩

set_option maxHeartbeats 1000000 in
theorem may6_2 (h : code 651 = some x651) (h' : code 656 = some x656) (h2 : code 653 = some x653) (h3 : code 759 = some x759) (h4 : code 749 = some x749) (h5 : code 650 = some x650) (h6 : code 652 = some x652) (T : List Obj) (hb : T.length ≤ 1048576) (k : Nat) (o : Obj) (ho : T[k]? = some o) (k6 : o.k = 6) (cS : o.s = .empty) (cF : o.fn = 0) (cR : ¬ (o.l.xs.length : Int) ≤ o.room) : ∃ b : Bool, callW code ext 652 [.osl 0 0 5 T.length (some (T.length + 1)), .optr 0 (k * 5)] [.flat (storeRow T) false] = some (avb b, [.flat (storeRow T) false]) ∧ (b = true ↔ ObjOk T o) := by
  rw [callW_fun code ext h6]
  have hlen := reads_len o.l.ok
  have hok : ObjOk T o ↔ (o.s = .empty ∧ o.room = 0 ∧ 0 ≤ o.fn ∧ o.fn < 256 ∧ heldOf T o.l.xs true = true) := by
    unfold ObjOk
    rw [if_neg (by omega), if_neg (by omega), if_neg (by omega), if_pos k6]
  rw [hok]
  clear hok
  have g0 : (storeRow T)[k * 5]? = some (.val (.int .u8 o.k)) := cut_get (storeRow_get ho) 0 (by omega)
  have g1 : (storeRow T)[k * 5 + 1]? = some (.val (.string o.s)) := cut_get (storeRow_get ho) 1 (by omega)
  have g2 : (storeRow T)[k * 5 + 2]? = some (o.l.iv) := cut_get (storeRow_get ho) 2 (by omega)
  have g3 : (storeRow T)[k * 5 + 3]? = some (.val (.int .i64 o.room)) := cut_get (storeRow_get ho) 3 (by omega)
  have g4 : (storeRow T)[k * 5 + 4]? = some (.val (.int .i64 o.fn)) := cut_get (storeRow_get ho) 4 (by omega)
  have hba := anyBad_spec (ext := ext) h h' h2 h3 h4 T hb k o ho o.l.ok
  rw [any_held] at hba
  rw [show decide (o.k = 6) = true by simp [k6]] at hba
  simp only [mayMem] at hba
  have cSt : (o.s = .empty) = True := eq_true cS
  have cFt : (o.fn = 0) = True := eq_true cF
  have cRt : ((o.l.xs.length : Int) ≤ o.room) = False := eq_false cR
  by_cases hh : heldOf T o.l.xs true = true
  case neg =>
    have hhf : heldOf T o.l.xs true = false := by simpa using hh
    rw [hhf] at hba
    exact ⟨false, by simp -implicitDefEqProofs [x652, k6, g0, g1, g2, g3, g4, hlen, hba, cSt, cFt, cRt], by simp [hhf]⟩
  rw [hh] at hba
  by_cases cZ : o.room = 0
  case neg =>
    have cZt : (o.room = 0) = False := eq_false cZ
    first
    | (exfalso; omega)
    | exact ⟨false, by simp -implicitDefEqProofs [x652, k6, g0, g1, g2, g3, g4, hlen, hba, cSt, cFt, cRt, cZt], by simp [cS, cF, cR, cZ]⟩
  have cZt : (o.room = 0) = True := eq_true cZ
  by_cases cG : 0 ≤ o.fn
  case neg =>
    have cGt : (0 ≤ o.fn) = False := eq_false cG
    first
    | (exfalso; omega)
    | exact ⟨false, by simp -implicitDefEqProofs [x652, k6, g0, g1, g2, g3, g4, hlen, hba, cSt, cFt, cRt, cZt, cGt], by simp [cS, cF, cR, cZ, cG]⟩
  have cGt : (0 ≤ o.fn) = True := eq_true cG
  by_cases cH : o.fn < 256
  case neg =>
    have cHt : (o.fn < 256) = False := eq_false cH
    first
    | (exfalso; omega)
    | exact ⟨false, by simp -implicitDefEqProofs [x652, k6, g0, g1, g2, g3, g4, hlen, hba, cSt, cFt, cRt, cZt, cGt, cHt], by simp [cS, cF, cR, cZ, cG, cH]⟩
  have cHt : (o.fn < 256) = True := eq_true cH
  exact ⟨true, by simp -implicitDefEqProofs [x652, k6, g0, g1, g2, g3, g4, hlen, hba, cSt, cFt, cRt, cZt, cGt, cHt], by simp [cS, cF, cR, cZ, cG, cH, hh]⟩

set_option maxHeartbeats 1000000 in
theorem may6_3 (h : code 651 = some x651) (h' : code 656 = some x656) (h2 : code 653 = some x653) (h3 : code 759 = some x759) (h4 : code 749 = some x749) (h5 : code 650 = some x650) (h6 : code 652 = some x652) (T : List Obj) (hb : T.length ≤ 1048576) (k : Nat) (o : Obj) (ho : T[k]? = some o) (k6 : o.k = 6) (cS : o.s = .empty) (cF : o.fn = 0) (cR : (o.l.xs.length : Int) ≤ o.room) (cQ : ¬ o.room ≤ 262144) : ∃ b : Bool, callW code ext 652 [.osl 0 0 5 T.length (some (T.length + 1)), .optr 0 (k * 5)] [.flat (storeRow T) false] = some (avb b, [.flat (storeRow T) false]) ∧ (b = true ↔ ObjOk T o) := by
  rw [callW_fun code ext h6]
  have hlen := reads_len o.l.ok
  have hok : ObjOk T o ↔ (o.s = .empty ∧ o.room = 0 ∧ 0 ≤ o.fn ∧ o.fn < 256 ∧ heldOf T o.l.xs true = true) := by
    unfold ObjOk
    rw [if_neg (by omega), if_neg (by omega), if_neg (by omega), if_pos k6]
  rw [hok]
  clear hok
  have g0 : (storeRow T)[k * 5]? = some (.val (.int .u8 o.k)) := cut_get (storeRow_get ho) 0 (by omega)
  have g1 : (storeRow T)[k * 5 + 1]? = some (.val (.string o.s)) := cut_get (storeRow_get ho) 1 (by omega)
  have g2 : (storeRow T)[k * 5 + 2]? = some (o.l.iv) := cut_get (storeRow_get ho) 2 (by omega)
  have g3 : (storeRow T)[k * 5 + 3]? = some (.val (.int .i64 o.room)) := cut_get (storeRow_get ho) 3 (by omega)
  have g4 : (storeRow T)[k * 5 + 4]? = some (.val (.int .i64 o.fn)) := cut_get (storeRow_get ho) 4 (by omega)
  have hba := anyBad_spec (ext := ext) h h' h2 h3 h4 T hb k o ho o.l.ok
  rw [any_held] at hba
  rw [show decide (o.k = 6) = true by simp [k6]] at hba
  simp only [mayMem] at hba
  have cSt : (o.s = .empty) = True := eq_true cS
  have cFt : (o.fn = 0) = True := eq_true cF
  have cRt : ((o.l.xs.length : Int) ≤ o.room) = True := eq_true cR
  have cQt : (o.room ≤ 262144) = False := eq_false cQ
  by_cases hh : heldOf T o.l.xs true = true
  case neg =>
    have hhf : heldOf T o.l.xs true = false := by simpa using hh
    rw [hhf] at hba
    exact ⟨false, by simp -implicitDefEqProofs [x652, k6, g0, g1, g2, g3, g4, hlen, hba, cSt, cFt, cRt, cQt], by simp [hhf]⟩
  rw [hh] at hba
  by_cases cZ : o.room = 0
  case neg =>
    have cZt : (o.room = 0) = False := eq_false cZ
    first
    | (exfalso; omega)
    | exact ⟨false, by simp -implicitDefEqProofs [x652, k6, g0, g1, g2, g3, g4, hlen, hba, cSt, cFt, cRt, cQt, cZt], by simp [cS, cF, cR, cQ, cZ]⟩
  have cZt : (o.room = 0) = True := eq_true cZ
  by_cases cG : 0 ≤ o.fn
  case neg =>
    have cGt : (0 ≤ o.fn) = False := eq_false cG
    first
    | (exfalso; omega)
    | exact ⟨false, by simp -implicitDefEqProofs [x652, k6, g0, g1, g2, g3, g4, hlen, hba, cSt, cFt, cRt, cQt, cZt, cGt], by simp [cS, cF, cR, cQ, cZ, cG]⟩
  have cGt : (0 ≤ o.fn) = True := eq_true cG
  by_cases cH : o.fn < 256
  case neg =>
    have cHt : (o.fn < 256) = False := eq_false cH
    first
    | (exfalso; omega)
    | exact ⟨false, by simp -implicitDefEqProofs [x652, k6, g0, g1, g2, g3, g4, hlen, hba, cSt, cFt, cRt, cQt, cZt, cGt, cHt], by simp [cS, cF, cR, cQ, cZ, cG, cH]⟩
  have cHt : (o.fn < 256) = True := eq_true cH
  exact ⟨true, by simp -implicitDefEqProofs [x652, k6, g0, g1, g2, g3, g4, hlen, hba, cSt, cFt, cRt, cQt, cZt, cGt, cHt], by simp [cS, cF, cR, cQ, cZ, cG, cH, hh]⟩

set_option maxHeartbeats 1000000 in
theorem may6_4 (h : code 651 = some x651) (h' : code 656 = some x656) (h2 : code 653 = some x653) (h3 : code 759 = some x759) (h4 : code 749 = some x749) (h5 : code 650 = some x650) (h6 : code 652 = some x652) (T : List Obj) (hb : T.length ≤ 1048576) (k : Nat) (o : Obj) (ho : T[k]? = some o) (k6 : o.k = 6) (cS : o.s = .empty) (cF : o.fn = 0) (cR : (o.l.xs.length : Int) ≤ o.room) (cQ : o.room ≤ 262144) : ∃ b : Bool, callW code ext 652 [.osl 0 0 5 T.length (some (T.length + 1)), .optr 0 (k * 5)] [.flat (storeRow T) false] = some (avb b, [.flat (storeRow T) false]) ∧ (b = true ↔ ObjOk T o) := by
  rw [callW_fun code ext h6]
  have hlen := reads_len o.l.ok
  have hok : ObjOk T o ↔ (o.s = .empty ∧ o.room = 0 ∧ 0 ≤ o.fn ∧ o.fn < 256 ∧ heldOf T o.l.xs true = true) := by
    unfold ObjOk
    rw [if_neg (by omega), if_neg (by omega), if_neg (by omega), if_pos k6]
  rw [hok]
  clear hok
  have g0 : (storeRow T)[k * 5]? = some (.val (.int .u8 o.k)) := cut_get (storeRow_get ho) 0 (by omega)
  have g1 : (storeRow T)[k * 5 + 1]? = some (.val (.string o.s)) := cut_get (storeRow_get ho) 1 (by omega)
  have g2 : (storeRow T)[k * 5 + 2]? = some (o.l.iv) := cut_get (storeRow_get ho) 2 (by omega)
  have g3 : (storeRow T)[k * 5 + 3]? = some (.val (.int .i64 o.room)) := cut_get (storeRow_get ho) 3 (by omega)
  have g4 : (storeRow T)[k * 5 + 4]? = some (.val (.int .i64 o.fn)) := cut_get (storeRow_get ho) 4 (by omega)
  have hba := anyBad_spec (ext := ext) h h' h2 h3 h4 T hb k o ho o.l.ok
  rw [any_held] at hba
  rw [show decide (o.k = 6) = true by simp [k6]] at hba
  simp only [mayMem] at hba
  have cSt : (o.s = .empty) = True := eq_true cS
  have cFt : (o.fn = 0) = True := eq_true cF
  have cRt : ((o.l.xs.length : Int) ≤ o.room) = True := eq_true cR
  have cQt : (o.room ≤ 262144) = True := eq_true cQ
  by_cases hh : heldOf T o.l.xs true = true
  case neg =>
    have hhf : heldOf T o.l.xs true = false := by simpa using hh
    rw [hhf] at hba
    exact ⟨false, by simp -implicitDefEqProofs [x652, k6, g0, g1, g2, g3, g4, hlen, hba, cSt, cFt, cRt, cQt], by simp [hhf]⟩
  rw [hh] at hba
  by_cases cZ : o.room = 0
  case neg =>
    have cZt : (o.room = 0) = False := eq_false cZ
    first
    | (exfalso; omega)
    | exact ⟨false, by simp -implicitDefEqProofs [x652, k6, g0, g1, g2, g3, g4, hlen, hba, cSt, cFt, cRt, cQt, cZt], by simp [cS, cF, cR, cQ, cZ]⟩
  have cZt : (o.room = 0) = True := eq_true cZ
  by_cases cG : 0 ≤ o.fn
  case neg =>
    have cGt : (0 ≤ o.fn) = False := eq_false cG
    first
    | (exfalso; omega)
    | exact ⟨false, by simp -implicitDefEqProofs [x652, k6, g0, g1, g2, g3, g4, hlen, hba, cSt, cFt, cRt, cQt, cZt, cGt], by simp [cS, cF, cR, cQ, cZ, cG]⟩
  have cGt : (0 ≤ o.fn) = True := eq_true cG
  by_cases cH : o.fn < 256
  case neg =>
    have cHt : (o.fn < 256) = False := eq_false cH
    first
    | (exfalso; omega)
    | exact ⟨false, by simp -implicitDefEqProofs [x652, k6, g0, g1, g2, g3, g4, hlen, hba, cSt, cFt, cRt, cQt, cZt, cGt, cHt], by simp [cS, cF, cR, cQ, cZ, cG, cH]⟩
  have cHt : (o.fn < 256) = True := eq_true cH
  exact ⟨true, by simp -implicitDefEqProofs [x652, k6, g0, g1, g2, g3, g4, hlen, hba, cSt, cFt, cRt, cQt, cZt, cGt, cHt], by simp [cS, cF, cR, cQ, cZ, cG, cH, hh]⟩

theorem may6 (h : code 651 = some x651) (h' : code 656 = some x656) (h2 : code 653 = some x653) (h3 : code 759 = some x759) (h4 : code 749 = some x749) (h5 : code 650 = some x650) (h6 : code 652 = some x652) (T : List Obj) (hb : T.length ≤ 1048576) (k : Nat) (o : Obj) (ho : T[k]? = some o) (k6 : o.k = 6) : ∃ b : Bool, callW code ext 652 [.osl 0 0 5 T.length (some (T.length + 1)), .optr 0 (k * 5)] [.flat (storeRow T) false] = some (avb b, [.flat (storeRow T) false]) ∧ (b = true ↔ ObjOk T o) := by
  by_cases cS : o.s = .empty
  case neg => exact may6_0 h h' h2 h3 h4 h5 h6 T hb k o ho k6 cS
  by_cases cF : o.fn = 0
  case neg => exact may6_1 h h' h2 h3 h4 h5 h6 T hb k o ho k6 cS cF
  by_cases cR : (o.l.xs.length : Int) ≤ o.room
  case neg => exact may6_2 h h' h2 h3 h4 h5 h6 T hb k o ho k6 cS cF cR
  by_cases cQ : o.room ≤ 262144
  case neg => exact may6_3 h h' h2 h3 h4 h5 h6 T hb k o ho k6 cS cF cR cQ
  exact may6_4 h h' h2 h3 h4 h5 h6 T hb k o ho k6 cS cF cR cQ

end
end Go.EX
