import Derived.Test.YtbomedbbgfcncaaDoorT10
import Derived.Test.YtbomedbbgfcncaaDoorC4p
set_option linter.unusedVariables false
set_option linter.unusedSimpArgs false
namespace Go.EX
section
variable {code : Nat → Option XFun} {ext : Calls'}
def leadR (S : List Obj) (v : Val) : Int := match leadsOf S v with
  | some k => (k : Nat)
  | none => -1
theorem leadsR_spec (h : code 502 = some x502) {sv : IV} {S : List Obj} (hr : Reads tObj sv S) (v : Val) : callW code ext 502 [.imm sv, .agg [.imm (.val (.int .u8 v.k)), int64 v.n]] [] = some (int64 (leadR S v), []) := by
  rw [callW_fun code ext h]
  have hlen := reads_len hr
  have hb := hr.2.1
  unfold leadR leadsOf
  by_cases c1 : v.k < 3
  · simp -implicitDefEqProofs [x502, c1]
  by_cases c2 : 7 < v.k
  · simp -implicitDefEqProofs [x502, c1, c2]
  by_cases c3 : v.n < 1
  · simp -implicitDefEqProofs [x502, c1, c2, c3]
  by_cases c4 : (S.length : Int) < v.n
  · simp -implicitDefEqProofs [x502, c1, c2, c3, c4, hlen]
  obtain ⟨vk, vn⟩ := v
  simp only at c1 c2 c3 c4 ⊢
  obtain ⟨p, rfl⟩ : ∃ p : Nat, vn = (p : Int) + 1 := ⟨(vn - 1).toNat, by omega⟩
  have hlt : p < S.length := by omega
  obtain ⟨row, off, cap, rfl, hc, hcut, hget⟩ := reads_pos hr (List.getElem?_eq_getElem hlt)
  have ep : ((p : Int) + 1 - 1).toNat = p := by omega
  rw [if_neg c1, if_neg c2, if_neg c3, if_neg c4, ep, List.getElem?_eq_getElem hlt]
  generalize S[p] = o at hget
  simp only [tObj] at hget
  have g0 : row[off + p * 5]? = some (.val (.int .u8 o.k)) := cut_get hget 0 (by omega)
  have e1 : IntKind.wrap .i64 (p : Int) = p := wrapI64 (by omega) (by omega)
  by_cases c5 : o.k = vk
  · simp -implicitDefEqProofs [x502, c1, c2, c3, c4, hlen, e1, g0, c5, hlt]
  · simp -implicitDefEqProofs [x502, c1, c2, c3, c4, hlen, e1, g0, c5, hlt]
abbrev blI (t : Bool) : IV := .val (.bool t)
def rNil (sv : IV) (l : Bool) : Mem := [.rich [.imm sv, nilS, .imm (blI l)]]
def rOne (sv : IV) (b : ByteArray) (l : Bool) : Mem := [.rich [.imm sv, .osl 1 0 1 b.size none, .imm (blI l)], .text (rowOfS b)]
def rTwo (sv : IV) (b : ByteArray) (l : Bool) : Mem := [.rich [.imm sv, .osl 2 0 1 b.size none, .imm (blI l)], .dead, .text (rowOfS b)]
def rOut (two : Bool) (sv : IV) (p : ByteArray × Bool) : Mem := if two then rTwo sv p.1 p.2 else rOne sv p.1 p.2
def putR (p : ByteArray × Bool) (x : ByteArray) : ByteArray × Bool := if p.2 = true ∨ 4096 < p.1.size + x.size then (p.1, true) else (p.1 ++ x, false)
theorem put_one (h : code 98 = some x98S) (sv : IV) (b x : ByteArray) (l : Bool) (h0 : 0 < b.size) (hb : b.size ≤ 4096) (hx : x.size ≤ 100000000) :
    callW code ext 98 [.optr 0 0, strV x] (rOne sv b l) = some (.tup [], rOut (!(putR (b, l) x).2) sv (putR (b, l) x)) := by
  rw [callW_fun code ext h]
  cases l with
  | true =>
    have hp : putR (b, true) x = (b, true) := by simp [putR]
    rw [hp]
    simp only [rOne, rOut, Bool.not_true, Bool.false_eq_true, if_false]
    simp -implicitDefEqProofs [x98S]
  | false =>
    have e1 : IntKind.wrap .i64 ((b.size : Int) + x.size) = (b.size : Int) + x.size := wrapI64 (by omega) (by omega)
    by_cases h4 : 4096 < b.size + x.size
    · have hp : putR (b, false) x = (b, true) := by simp [putR, h4]
      have h4' : (4096 : Int) < (b.size : Int) + x.size := by omega
      rw [hp]
      simp only [rOne, rOut, Bool.not_true, Bool.false_eq_true, if_false]
      simp -implicitDefEqProofs [x98S, e1, h4']
    · have hp : putR (b, false) x = (b ++ x, false) := by simp [putR, h4]
      have h4' : ¬ (4096 : Int) < (b.size : Int) + x.size := by omega
      have hq := rowS_len b
      have hle : b.size + x.size ≤ 140737488355328 := by omega
      have hcut : cut (rowOfS x) 0 x.size = some (rowOfS x) := cut_all _ (rowS_len x)
      rw [hp]
      simp only [rOne, rOut, rTwo, Bool.not_false, if_true, size_append', rowS_append]
      simp -implicitDefEqProofs [x98S, e1, h4', exAppendS, elems, hq, h0, hle, hcut]
theorem putR_pos {b x : ByteArray} {l : Bool} (h0 : 0 < b.size) : 0 < (putR (b, l) x).1.size := by
  unfold putR
  split
  · exact h0
  · show 0 < (b ++ x).size; rw [size_append']; omega
theorem putR_size {b x : ByteArray} {l : Bool} (hb : b.size ≤ 4096) : (putR (b, l) x).1.size ≤ 4096 := by
  unfold putR
  split
  · exact hb
  · rename_i h
    simp only [not_or] at h
    show (b ++ x).size ≤ 4096; rw [size_append']; omega
def itemsR (f : Val → ByteArray × Bool → ByteArray × Bool) (m : Bool) : List Val → Nat → ByteArray × Bool → ByteArray × Bool
  | [], _, p => p
  | v :: r, i, p => if p.2 = true then p else itemsR f m r (i + 1) (f v (if m = true ∧ i % 2 = 1 then putR p keyT else if 0 < i then putR p nextT else p))
def rowR (f : Val → ByteArray × Bool → ByteArray × Bool) (o : Obj) (p : ByteArray × Bool) : ByteArray × Bool :=
  let m := decide (o.k = 5)
  let q := itemsR f m o.l.xs 0 (putR p (if m then openM else openL))
  putR (if m = true ∧ o.l.xs.length % 2 = 1 then putR q lackT else q) (if m then endM else endL)
def valR (S : List Obj) : Nat → Val → ByteArray × Bool → ByteArray × Bool
  | d, v, p => match pieceOf S (d == 0) v with
    | some x => putR p x
    | none => match d, objOf S v with
      | d + 1, some o => rowR (valR S d) o p
      | _, _ => p
structure ItemR (code : Nat → Option XFun) (ext : Calls') (sv : IV) (inn : Int) (f : Val → ByteArray × Bool → ByteArray × Bool) (xs : List Val) : Prop where
  call : ∀ v ∈ xs, ∀ (b : ByteArray) (l : Bool), 0 < b.size → b.size ≤ 4096 → ∃ two, callW code ext 100 [.optr 0 0, .agg [.imm (.val (.int .u8 v.k)), int64 v.n], int64 inn] (rOne sv b l) = some (.tup [], rOut two sv (f v (b, l)))
  pos : ∀ v ∈ xs, ∀ p : ByteArray × Bool, 0 < p.1.size → 0 < (f v p).1.size
  size : ∀ v ∈ xs, ∀ p : ByteArray × Bool, p.1.size ≤ 4096 → (f v p).1.size ≤ 4096
theorem put_nil (h : code 98 = some x98S) (sv : IV) (x : ByteArray) (hx : x.size ≤ 100000000) :
    callW code ext 98 [.optr 0 0, strV x] (rNil sv false) = some (.tup [], if x.size = 0 then rNil sv false else if 4096 < x.size then rNil sv true else rOne sv x false) := by
  rw [callW_fun code ext h]
  have e1 : IntKind.wrap .i64 (x.size : Int) = x.size := wrapI64 (by omega) (by omega)
  have hle : x.size ≤ 140737488355328 := by omega
  have hcut : cut (rowOfS x) 0 x.size = some (rowOfS x) := cut_all _ (rowS_len x)
  by_cases h4 : 4096 < x.size
  · have h4' : (4096 : Int) < x.size := by omega
    rw [if_neg (by omega), if_pos h4]
    simp only [rNil]
    simp -implicitDefEqProofs [x98S, e1, h4']
  · have h4' : ¬ (4096 : Int) < x.size := by omega
    by_cases h0 : x.size = 0
    · have := empty_of h0
      subst this
      rw [if_pos h0]
      simp only [rNil]
      have w0 : IntKind.wrap .i64 0 = 0 := rfl
      simp -implicitDefEqProofs [x98S, exAppendS, elems, w0]
    · rw [if_neg h0, if_neg h4]
      simp only [rNil, rOne]
      simp -implicitDefEqProofs [x98S, e1, h4', exAppendS, elems, h0, hle, hcut]
end
end Go.EX

