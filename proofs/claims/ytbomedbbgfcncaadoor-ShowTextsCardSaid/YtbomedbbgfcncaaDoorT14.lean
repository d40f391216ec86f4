import Derived.Test.YtbomedbbgfcncaaDoorT13a
import Derived.Test.YtbomedbbgfcncaaDoorT13b
set_option linter.unusedVariables false
set_option linter.unusedSimpArgs false
namespace Go.EX
section
variable {code : Nat → Option XFun} {ext : Calls'}
theorem putR_long {p : ByteArray × Bool} {x : ByteArray} (h : (putR p x).2 = true) : putR p x = (p.1, true) := by
  unfold putR at h ⊢
  split
  · rfl
  · rename_i hn; rw [if_neg hn] at h; cases h
theorem putR_true (b x : ByteArray) : putR (b, true) x = (b, true) := by simp [putR]
theorem itemsR_true (f : Val → ByteArray × Bool → ByteArray × Bool) (m : Bool) (xs : List Val) (i : Nat) (b : ByteArray) : itemsR f m xs i (b, true) = (b, true) := by
  cases xs with
  | nil => rfl
  | cons v r => rw [itemsR, if_pos rfl]
def memL (sv : IV) (o : Obj) (b : ByteArray) : Mem := [.rich [.imm sv, .osl 1 0 1 b.size none, .imm (blI true)], .text (rowOfS b), .rich (cellsR_two o)]
theorem itemsR_none {sv : IV} {inn : Int} {o : Obj} (hl : o.l.xs.length ≤ 1000000) (en b : ByteArray) (s0 : St)
    (hs0 : s0.tidy [0, 2, 4, 7, 8] = ⟨2, [(0, .optr 0 0), (2, int64 inn), (4, .optr 2 0), (7, strV en), (8, int64 0)], memL sv o b⟩) :
    ∃ e s', den code ext (.loop [0, 2, 4, 7, 8] x99L1) s0 = some (e, s') ∧ e ≠ .normal ∧ (e = .exit 0 ∧ ∃ y : Bool, s' = ⟨2, [(0, .optr 0 0), (2, int64 inn), (4, .optr 2 0), (7, strV en), (8, int64 0), (26, avb y)], memL sv o b⟩) := by
  have hlen := reads_len o.l.ok
  refine loop_rule (fun n s => s.tidy [0, 2, 4, 7, 8] = ⟨2, [(0, .optr 0 0), (2, int64 inn), (4, .optr 2 0), (7, strV en), (8, int64 0)], memL sv o b⟩) _ ?_ 0 _ hs0
  intro n s hst
  rw [hst]
  simp only [memL, cellsR_two]
  by_cases h0 : 0 < o.l.xs.length
  · have h0' : (0 : Int) < o.l.xs.length := by omega
    exact ⟨.exit 0, _, by simp -implicitDefEqProofs [x99L1, hlen, h0, h0']; rfl, .inr ⟨by simp, rfl, false, by simp only [memL, cellsR_two]⟩⟩
  · have h00 : o.l.xs.length = 0 := by omega
    have h0' : ¬ (0 : Int) < o.l.xs.length := by omega
    exact ⟨.exit 0, _, by simp -implicitDefEqProofs [x99L1, hlen, h0, h0', h00]; rfl, .inr ⟨by simp, rfl, false, by simp only [memL, cellsR_two]⟩⟩
end
end Go.EX

