/-
  EX: law 04: the reference: may an object be? (the chains written by a program)
-/
import Derived.Test.YtbomedbbgfcncaaS4n
set_option linter.unusedVariables false
set_option linter.unusedSimpArgs false
namespace Go.EX

/-- May an object be, but for the objects of its values? -/
def ObjOk (S : List Obj) (o : Obj) : Prop :=
  if o.k = 3 then o.s.size ≤ 4096 ∧ o.l.xs = [] ∧ o.room = 0 ∧ o.fn = 0
  else if o.k = 4 then o.s = .empty ∧ o.fn = 0 ∧ (o.l.xs.length : Int) ≤ 65536 ∧ (o.l.xs.length : Int) ≤ o.room ∧ o.room ≤ 262144 ∧ heldOf S o.l.xs false = true
  else if o.k = 5 then o.s = .empty ∧ o.fn = 0 ∧ (o.l.xs.length : Int).tmod 2 = 0 ∧ (o.l.xs.length : Int) ≤ 131072 ∧ (o.l.xs.length : Int) ≤ o.room ∧ o.room ≤ 262144 ∧ heldOf S o.l.xs false = true ∧ KeysOk S o.l.xs
  else if o.k = 6 then o.s = .empty ∧ o.room = 0 ∧ 0 ≤ o.fn ∧ o.fn < 256 ∧ heldOf S o.l.xs true = true
  else o.s = .empty ∧ o.room = 0 ∧ o.fn = 0 ∧ (o.l.xs.length : Int) = 1 ∧ heldOf S o.l.xs false = true

abbrev objAV (o : Obj) : AV := .agg [.imm (.val (.int .u8 o.k)), .imm (.val (.string o.s)), .imm o.l.iv, int64 o.room, int64 o.fn]

section
variable {code : Nat → Option XFun} {ext : Calls'}

theorem refObj3 (h : code 502 = some x502) (h' : code 510 = some x510) (h2 : code 506 = some x506) (h3 : code 503 = some x503) (h4 : code 507 = some x507) (h5 : code 508 = some x508) {sv : IV} {S : List Obj} (hr : Reads tObj sv S) (o : Obj) (k3 : o.k = 3) : ∃ b : Bool, callW code ext 508 [.imm sv, objAV o] [] = some (avb b, []) ∧ (b = true ↔ ObjOk S o) := by
  rw [callW_fun code ext h5]
  have hlen := reads_len o.l.ok
  have hok : ObjOk S o ↔ (o.s.size ≤ 4096 ∧ o.l.xs = [] ∧ o.room = 0 ∧ o.fn = 0) := by
    unfold ObjOk
    rw [if_pos k3]
  rw [hok]
  clear hok
  by_cases c1 : (o.s.size : Int) ≤ 4096
  case neg => exact ⟨false, by simp -implicitDefEqProofs [x508, k3, hlen, c1], by simp [c1, show ¬ o.s.size ≤ 4096 by omega]⟩
  by_cases c2 : o.l.xs = []
  case neg => exact ⟨false, by simp -implicitDefEqProofs [x508, k3, hlen, c1, c2], by simp [c1, c2]⟩
  by_cases c3 : o.room = 0
  case neg => exact ⟨false, by simp -implicitDefEqProofs [x508, k3, hlen, c1, c2, c3], by simp [c1, c2, c3]⟩
  by_cases c4 : o.fn = 0
  case neg => exact ⟨false, by simp -implicitDefEqProofs [x508, k3, hlen, c1, c2, c3, c4], by simp [c1, c2, c3, c4]⟩
  exact ⟨true, by simp -implicitDefEqProofs [x508, k3, hlen, c1, c2, c3, c4], by simp [c1, c2, c3, c4, show o.s.size ≤ 4096 by omega]⟩

theorem refObj4 (h : code 502 = some x502) (h' : code 510 = some x510) (h2 : code 506 = some x506) (h3 : code 503 = some x503) (h4 : code 507 = some x507) (h5 : code 508 = some x508) {sv : IV} {S : List Obj} (hr : Reads tObj sv S) (o : Obj) (k4 : o.k = 4) : ∃ b : Bool, callW code ext 508 [.imm sv, objAV o] [] = some (avb b, []) ∧ (b = true ↔ ObjOk S o) := by
  rw [callW_fun code ext h5]
  have hlen := reads_len o.l.ok
  have hok : ObjOk S o ↔ (o.s = .empty ∧ o.fn = 0 ∧ (o.l.xs.length : Int) ≤ 65536 ∧ (o.l.xs.length : Int) ≤ o.room ∧ o.room ≤ 262144 ∧ heldOf S o.l.xs false = true) := by
    unfold ObjOk
    rw [if_neg (by omega), if_pos k4]
  rw [hok]
  clear hok
  have hh := refHeld_spec (ext := ext) h h' h2 hr o.l.ok false
  by_cases c1 : o.s = .empty
  case neg => exact ⟨false, by simp -implicitDefEqProofs [x508, k4, hlen, hh, c1], by simp [c1]⟩
  by_cases c2 : o.fn = 0
  case neg => exact ⟨false, by simp -implicitDefEqProofs [x508, k4, hlen, hh, c1, c2], by simp [c1, c2]⟩
  by_cases c3 : (o.l.xs.length : Int) ≤ 65536
  case neg => exact ⟨false, by simp -implicitDefEqProofs [x508, k4, hlen, hh, c1, c2, c3], by simp [c1, c2, c3]⟩
  by_cases c4 : (o.l.xs.length : Int) ≤ o.room
  case neg => exact ⟨false, by simp -implicitDefEqProofs [x508, k4, hlen, hh, c1, c2, c3, c4], by simp [c1, c2, c3, c4]⟩
  by_cases c5 : o.room ≤ 262144
  case neg => exact ⟨false, by simp -implicitDefEqProofs [x508, k4, hlen, hh, c1, c2, c3, c4, c5], by simp [c1, c2, c3, c4, c5]⟩
  by_cases c6 : heldOf S o.l.xs false = true
  case neg =>
    have c6f : heldOf S o.l.xs false = false := by simpa using c6
    exact ⟨false, by simp -implicitDefEqProofs [x508, k4, hlen, hh, c1, c2, c3, c4, c5, c6f], by simp [c1, c2, c3, c4, c5, c6f]⟩
  exact ⟨true, by simp -implicitDefEqProofs [x508, k4, hlen, hh, c1, c2, c3, c4, c5, c6], by simp [c1, c2, c3, c4, c5, c6]⟩

set_option maxHeartbeats 1000000 in
theorem refObj5 (h : code 502 = some x502) (h' : code 510 = some x510) (h2 : code 506 = some x506) (h3 : code 503 = some x503) (h4 : code 507 = some x507) (h5 : code 508 = some x508) {sv : IV} {S : List Obj} (hr : Reads tObj sv S) (o : Obj) (k5 : o.k = 5) : ∃ b : Bool, callW code ext 508 [.imm sv, objAV o] [] = some (avb b, []) ∧ (b = true ↔ ObjOk S o) := by
  rw [callW_fun code ext h5]
  have hlen := reads_len o.l.ok
  have hok : ObjOk S o ↔ (o.s = .empty ∧ o.fn = 0 ∧ (o.l.xs.length : Int).tmod 2 = 0 ∧ (o.l.xs.length : Int) ≤ 131072 ∧ (o.l.xs.length : Int) ≤ o.room ∧ o.room ≤ 262144 ∧ heldOf S o.l.xs false = true ∧ KeysOk S o.l.xs) := by
    unfold ObjOk
    rw [if_neg (by omega), if_neg (by omega), if_pos k5]
  rw [hok]
  clear hok
  have hh := refHeld_spec (ext := ext) h h' h2 hr o.l.ok false
  obtain ⟨bk, hkk, hkb⟩ := refKeys_spec (ext := ext) h h3 h4 hr o.l.ok
  by_cases c1 : o.s = .empty
  case neg => exact ⟨false, by simp -implicitDefEqProofs [x508, k5, hlen, hh, hkk, c1], by simp [c1]⟩
  by_cases c2 : o.fn = 0
  case neg => exact ⟨false, by simp -implicitDefEqProofs [x508, k5, hlen, hh, hkk, c1, c2], by simp [c1, c2]⟩
  by_cases c3 : (o.l.xs.length : Int).tmod 2 = 0
  case neg => exact ⟨false, by simp -implicitDefEqProofs [x508, k5, hlen, hh, hkk, c1, c2, c3], by simp [c1, c2, c3]⟩
  by_cases c4 : (o.l.xs.length : Int) ≤ 131072
  case neg => exact ⟨false, by simp -implicitDefEqProofs [x508, k5, hlen, hh, hkk, c1, c2, c3, c4], by simp [c1, c2, c3, c4]⟩
  by_cases c5 : (o.l.xs.length : Int) ≤ o.room
  case neg => exact ⟨false, by simp -implicitDefEqProofs [x508, k5, hlen, hh, hkk, c1, c2, c3, c4, c5], by simp [c1, c2, c3, c4, c5]⟩
  by_cases c6 : o.room ≤ 262144
  case neg => exact ⟨false, by simp -implicitDefEqProofs [x508, k5, hlen, hh, hkk, c1, c2, c3, c4, c5, c6], by simp [c1, c2, c3, c4, c5, c6]⟩
  by_cases c7 : heldOf S o.l.xs false = true
  case neg =>
    have c7f : heldOf S o.l.xs false = false := by simpa using c7
    exact ⟨false, by simp -implicitDefEqProofs [x508, k5, hlen, hh, hkk, c1, c2, c3, c4, c5, c6, c7f], by simp [c1, c2, c3, c4, c5, c6, c7f]⟩
  refine ⟨bk, ?_, by rw [hkb]; simp [c1, c2, c3, c4, c5, c6, c7]⟩
  simp -implicitDefEqProofs [x508, k5, hlen, hh, hkk, c1, c2, c3, c4, c5, c6, c7]

theorem refObj6 (h : code 502 = some x502) (h' : code 510 = some x510) (h2 : code 506 = some x506) (h3 : code 503 = some x503) (h4 : code 507 = some x507) (h5 : code 508 = some x508) {sv : IV} {S : List Obj} (hr : Reads tObj sv S) (o : Obj) (k6 : o.k = 6) : ∃ b : Bool, callW code ext 508 [.imm sv, objAV o] [] = some (avb b, []) ∧ (b = true ↔ ObjOk S o) := by
  rw [callW_fun code ext h5]
  have hlen := reads_len o.l.ok
  have hok : ObjOk S o ↔ (o.s = .empty ∧ o.room = 0 ∧ 0 ≤ o.fn ∧ o.fn < 256 ∧ heldOf S o.l.xs true = true) := by
    unfold ObjOk
    rw [if_neg (by omega), if_neg (by omega), if_neg (by omega), if_pos k6]
  rw [hok]
  clear hok
  have hh := refHeld_spec (ext := ext) h h' h2 hr o.l.ok true
  by_cases c1 : o.s = .empty
  case neg => exact ⟨false, by simp -implicitDefEqProofs [x508, k6, hlen, hh, c1], by simp [c1]⟩
  by_cases c2 : o.room = 0
  case neg => exact ⟨false, by simp -implicitDefEqProofs [x508, k6, hlen, hh, c1, c2], by simp [c1, c2]⟩
  by_cases c3 : 0 ≤ o.fn
  case neg => exact ⟨false, by simp -implicitDefEqProofs [x508, k6, hlen, hh, c1, c2, c3], by simp [c1, c2, c3]⟩
  by_cases c4 : o.fn < 256
  case neg => exact ⟨false, by simp -implicitDefEqProofs [x508, k6, hlen, hh, c1, c2, c3, c4], by simp [c1, c2, c3, c4]⟩
  by_cases c5 : heldOf S o.l.xs true = true
  case neg =>
    have c5f : heldOf S o.l.xs true = false := by simpa using c5
    exact ⟨false, by simp -implicitDefEqProofs [x508, k6, hlen, hh, c1, c2, c3, c4, c5f], by simp [c1, c2, c3, c4, c5f]⟩
  exact ⟨true, by simp -implicitDefEqProofs [x508, k6, hlen, hh, c1, c2, c3, c4, c5], by simp [c1, c2, c3, c4, c5]⟩

theorem refObj7 (h : code 502 = some x502) (h' : code 510 = some x510) (h2 : code 506 = some x506) (h3 : code 503 = some x503) (h4 : code 507 = some x507) (h5 : code 508 = some x508) {sv : IV} {S : List Obj} (hr : Reads tObj sv S) (o : Obj) (k3 : ¬ o.k = 3) (k4 : ¬ o.k = 4) (k5 : ¬ o.k = 5) (k6 : ¬ o.k = 6) : ∃ b : Bool, callW code ext 508 [.imm sv, objAV o] [] = some (avb b, []) ∧ (b = true ↔ ObjOk S o) := by
  rw [callW_fun code ext h5]
  have hlen := reads_len o.l.ok
  have hok : ObjOk S o ↔ (o.s = .empty ∧ o.room = 0 ∧ o.fn = 0 ∧ (o.l.xs.length : Int) = 1 ∧ heldOf S o.l.xs false = true) := by
    unfold ObjOk
    rw [if_neg k3, if_neg k4, if_neg k5, if_neg k6]
  rw [hok]
  clear hok
  have hh := refHeld_spec (ext := ext) h h' h2 hr o.l.ok false
  by_cases c1 : o.s = .empty
  case neg => exact ⟨false, by simp -implicitDefEqProofs [x508, k3, k4, k5, k6, hlen, hh, c1], by simp [c1]⟩
  by_cases c2 : o.room = 0
  case neg => exact ⟨false, by simp -implicitDefEqProofs [x508, k3, k4, k5, k6, hlen, hh, c1, c2], by simp [c1, c2]⟩
  by_cases c3 : o.fn = 0
  case neg => exact ⟨false, by simp -implicitDefEqProofs [x508, k3, k4, k5, k6, hlen, hh, c1, c2, c3], by simp [c1, c2, c3]⟩
  by_cases c4 : (o.l.xs.length : Int) = 1
  case neg => exact ⟨false, by simp -implicitDefEqProofs [x508, k3, k4, k5, k6, hlen, hh, c1, c2, c3, c4], by simp [c1, c2, c3, c4]⟩
  by_cases c5 : heldOf S o.l.xs false = true
  case neg =>
    have c5f : heldOf S o.l.xs false = false := by simpa using c5
    exact ⟨false, by simp -implicitDefEqProofs [x508, k3, k4, k5, k6, hlen, hh, c1, c2, c3, c4, c5f], by simp [c1, c2, c3, c4, c5f]⟩
  exact ⟨true, by simp -implicitDefEqProofs [x508, k3, k4, k5, k6, hlen, hh, c1, c2, c3, c4, c5], by simp [c1, c2, c3, c4, c5]⟩

theorem refObj_spec (h : code 502 = some x502) (h' : code 510 = some x510) (h2 : code 506 = some x506) (h3 : code 503 = some x503) (h4 : code 507 = some x507) (h5 : code 508 = some x508) {sv : IV} {S : List Obj} (hr : Reads tObj sv S) (o : Obj) : ∃ b : Bool, callW code ext 508 [.imm sv, objAV o] [] = some (avb b, []) ∧ (b = true ↔ ObjOk S o) := by
  by_cases k3 : o.k = 3
  · exact refObj3 h h' h2 h3 h4 h5 hr o k3
  by_cases k4 : o.k = 4
  · exact refObj4 h h' h2 h3 h4 h5 hr o k4
  by_cases k5 : o.k = 5
  · exact refObj5 h h' h2 h3 h4 h5 hr o k5
  by_cases k6 : o.k = 6
  · exact refObj6 h h' h2 h3 h4 h5 hr o k6
  exact refObj7 h h' h2 h3 h4 h5 hr o k3 k4 k5 k6

end
end Go.EX
