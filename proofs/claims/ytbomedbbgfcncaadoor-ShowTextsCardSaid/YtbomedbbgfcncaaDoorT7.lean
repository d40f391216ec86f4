import Derived.Test.YtbomedbbgfcncaaDoorT6
set_option linter.unusedVariables false
set_option linter.unusedSimpArgs false
namespace Go.EX
def textOf (S : List Obj) (v : Val) : ByteArray × Bool := if 4096 < (tellV S 9 v .empty).size then (.empty, false) else (tellV S 9 v .empty, true)
theorem u8s_map (l : List UInt8) : u8s (l.map fun c => IV.val (.int .u8 c.toNat)) = some (l.map fun c => (c.toNat : Int)) := by
  induction l with
  | nil => rfl
  | cons c l ih => simp [u8s, ih]
theorem bytes_push (b : ByteArray) : pushAll (b.data.toList.map fun c => (c.toNat : Int)) = b := by
  rw [pushAll_eq]
  cases b with
  | mk d =>
    simp only [List.map_map]
    congr 1
    have : ((fun n : Int => UInt8.ofNat n.toNat) ∘ fun c : UInt8 => (c.toNat : Int)) = id := by
      funext c
      simp
    rw [this]
    simp
theorem mem_of {x : Option (AV × Mem)} {r : AV} (h : x.map Prod.fst = some r) : ∃ m, x = some (r, m) := by
  cases x with
  | none => cases h
  | some p => obtain ⟨a, m⟩ := p; cases h; exact ⟨m, rfl⟩
section
variable {code : Nat → Option XFun} {ext : Calls'}
theorem str_one (c : TextCode code ext) (sv : IV) (b : ByteArray) (hb : 0 < b.size) : callW code ext 670 [.optr 0 0] (bOne sv b) = some (strV b, [.rich [.optr 0 0, .osl 1 0 1 b.size none, .imm sv], .dead, .dead]) := by
  rw [callW_ext code ext c.n670 (by decide), c.e670]
  have h1 : u8s (rowOfS b) = some (b.data.toList.map fun c => (c.toNat : Int)) := u8s_map _
  have h2 := rowS_len b
  have h3 : ((b.data.toList.map fun c => (c.toNat : Int)).all fun n => decide (0 ≤ n) && decide (n < 256)) = true := by
    rw [List.all_eq_true]
    intro n hn
    rw [List.mem_map] at hn
    obtain ⟨c, _, rfl⟩ := hn
    have := c.toNat_lt
    simp
    omega
  simp only [extStr, bOne, if_true, List.getElem?_cons_zero, List.getElem?_cons_succ, Nat.zero_add, h1, h2, h3, hb, and_self, if_true, bytes_push]
  rfl
theorem str_nil (c : TextCode code ext) (u : Bool) (sv : IV) : callW code ext 670 [.optr 0 0] (bNil u sv) = some (strV .empty, bNil u sv) := by
  rw [callW_ext code ext c.n670 (by decide), c.e670]
  cases u <;> rfl
theorem text_spec (c : TextCode code ext) (h : code 651 = some x651) (h246 : code 246 = some x246) (h245 : code 245 = some x245) (h648 : code 648 = some x648) {sv : IV} {S : List Obj} (hr : Reads tObj sv S) (hS : StoreOK S) (v : Val) (hv : tVal.wf v) :
    ∃ m, callW code ext 648 [.imm sv, .agg [.imm (.val (.int .u8 v.k)), int64 v.n]] [] = some (.tup [strV (textOf S v).1, avb (textOf S v).2], m) := by
  have hT := tell_nil c h h246 h245 hr hS v hv
  refine mem_of ?_
  unfold textOf
  rw [callW_fun code ext h648]
  by_cases h0 : (tellV S 9 v .empty).size = 0
  · rw [if_pos h0] at hT
    have he := empty_of h0
    have hl := long_nil c true sv
    have hs := str_nil c true sv
    rw [if_neg (by omega), he]
    simp only [bNil, bAddr] at hT hl hs ⊢
    simp -implicitDefEqProofs [x648, hT, hl, hs]
  · rw [if_neg h0] at hT
    generalize tellV S 9 v .empty = t at hT h0 ⊢
    have hl := long_one c sv t
    have hs := str_one c sv t (by omega)
    by_cases h4 : 4096 < t.size
    · rw [if_pos h4]
      simp only [h4, decide_true] at hl
      simp only [bNil, bAddr, bOne] at hT hl hs ⊢
      simp -implicitDefEqProofs [x648, hT, hl, hs]
    · rw [if_neg h4]
      simp only [h4, decide_false] at hl
      simp only [bNil, bAddr, bOne] at hT hl hs ⊢
      simp -implicitDefEqProofs [x648, hT, hl, hs]
end
end Go.EX

