import Derived.Test.YtbomedbbgfcncaaDoorT1
set_option linter.unusedVariables false
set_option linter.unusedSimpArgs false
namespace Go.EX
abbrev nilT : ByteArray := ⟨#[110, 105, 108]⟩
abbrev yesT : ByteArray := ⟨#[121, 101, 115]⟩
abbrev noT : ByteArray := ⟨#[110, 111]⟩
abbrev askT : ByteArray := ⟨#[63]⟩
abbrev fnT : ByteArray := ⟨#[102, 110, 32]⟩
abbrev dotsT : ByteArray := ⟨#[46, 46]⟩
abbrev openL : ByteArray := ⟨#[91]⟩
abbrev endL : ByteArray := ⟨#[93]⟩
abbrev openM : ByteArray := ⟨#[123]⟩
abbrev endM : ByteArray := ⟨#[125]⟩
abbrev keyT : ByteArray := ⟨#[58, 32]⟩
abbrev nextT : ByteArray := ⟨#[44, 32]⟩
abbrev lackT : ByteArray := ⟨#[58, 32, 110, 105, 108]⟩
def dig (n : Int) : ByteArray := ⟨(Go.Lib.itoa n).toArray⟩
def objOf (S : List Obj) (v : Val) : Option Obj := (leadsOf S v).bind fun k => S[k]?
def pieceOf (S : List Obj) (deep : Bool) (v : Val) : Option ByteArray :=
  if v.k = 0 then some nilT
  else if v.k = 1 then some (if v.n = 1 then yesT else noT)
  else if v.k = 2 then some (dig v.n)
  else match objOf S v with
    | none => some askT
    | some o => if v.k = 7 then some askT else if v.k = 3 then some o.s else if v.k = 6 then some (fnT ++ dig o.fn) else if deep then some dotsT else none
def itemsV (f : Val → ByteArray → ByteArray) (m : Bool) : List Val → Nat → ByteArray → ByteArray × Bool
  | [], _, c => (c, false)
  | v :: r, i, c => if 4096 < c.size then (c, true) else itemsV f m r (i + 1) (f v (if m = true ∧ i % 2 = 1 then c ++ keyT else if 0 < i then c ++ nextT else c))
def rowV (f : Val → ByteArray → ByteArray) (o : Obj) (c : ByteArray) : ByteArray :=
  let m := decide (o.k = 5)
  let p := itemsV f m o.l.xs 0 (c ++ if m then openM else openL)
  if p.2 then p.1 else (if m = true ∧ o.l.xs.length % 2 = 1 then p.1 ++ lackT else p.1) ++ if m then endM else endL
def tellV (S : List Obj) : Nat → Val → ByteArray → ByteArray
  | d, v, c => match pieceOf S (d == 0) v with
    | some x => c ++ x
    | none => match d, objOf S v with
      | d + 1, some o => rowV (tellV S d) o c
      | _, _ => c
section
variable {code : Nat → Option XFun} {ext : Calls'}
theorem leadsI_spec (h : code 651 = some x651) {sv : IV} {S : List Obj} (hr : Reads tObj sv S) (v : Val) (hv : (tInt .i64).wf v.n) :
    (leadsOf S v = none ∧ callW code ext 651 [.imm sv, .agg [.imm (.val (.int .u8 v.k)), int64 v.n]] [] = some (.imm (.val (.pointer none)), [])) ∨
    ∃ k o row off, leadsOf S v = some k ∧ S[k]? = some o ∧ cut row off 5 = some [.val (.int .u8 o.k), .val (.string o.s), o.l.iv, .val (.int .i64 o.room), .val (.int .i64 o.fn)] ∧
      callW code ext 651 [.imm sv, .agg [.imm (.val (.int .u8 v.k)), int64 v.n]] [] = some (.imm (.ptr row off), []) := by
  rw [callW_fun code ext h]
  have hlen := reads_len hr
  have hb := hr.2.1
  unfold leadsOf
  by_cases c1 : v.k < 3
  · left; exact ⟨by simp [c1], by simp -implicitDefEqProofs [x651, c1]⟩
  by_cases c2 : 7 < v.k
  · left; exact ⟨by simp [c1, c2], by simp -implicitDefEqProofs [x651, c1, c2]⟩
  by_cases c3 : v.n < 1
  · left; exact ⟨by simp [c1, c2, c3], by simp -implicitDefEqProofs [x651, c1, c2, c3]⟩
  by_cases c4 : (S.length : Int) < v.n
  · left; exact ⟨by simp [c1, c2, c3, c4], by simp -implicitDefEqProofs [x651, c1, c2, c3, c4, hlen]⟩
  obtain ⟨vk, vn⟩ := v
  simp only at c1 c2 c3 c4 hv ⊢
  obtain ⟨p, rfl⟩ : ∃ p : Nat, vn = (p : Int) + 1 := ⟨(vn - 1).toNat, by omega⟩
  have hlt : p < S.length := by omega
  obtain ⟨row, off, cap, rfl, hc, hcut, hget⟩ := reads_pos hr (List.getElem?_eq_getElem hlt)
  have ep : ((p : Int) + 1 - 1).toNat = p := by omega
  rw [if_neg c1, if_neg c2, if_neg c3, if_neg c4, ep, List.getElem?_eq_getElem hlt]
  have hse : S[p]? = some S[p] := List.getElem?_eq_getElem hlt
  generalize S[p] = o at hget hse
  simp only [tObj] at hget
  have g0 : row[off + p * 5]? = some (.val (.int .u8 o.k)) := cut_get hget 0 (by omega)
  have e1 : IntKind.wrap .i64 (p : Int) = p := wrapI64 (by omega) (by omega)
  by_cases c5 : o.k = vk
  · right
    refine ⟨p, o, row, off + p * 5, by simp [c5], hse, hget, ?_⟩
    simp -implicitDefEqProofs [x651, c1, c2, c3, c4, hlen, e1, g0, c5, hlt]
  · left
    exact ⟨by simp [c5], by simp -implicitDefEqProofs [x651, c1, c2, c3, c4, hlen, e1, g0, c5, hlt]⟩
end
end Go.EX

