import Derived.Test.YtgidfebccdfjgaaDoorH5
set_option linter.unusedVariables false
set_option linter.unusedSimpArgs false
namespace Go.EX
section
variable {code : Nat → Option XFun} {ext : Calls'}
theorem HI.above {W B : List Nat} {e : Nat} (hi : HI W B e) {a : Nat} (h : e ≤ a) : placesTo B a = placesTo B e :=
  placesTo_none h fun j h1 _ => by
    cases hb : bitAt B j with
    | false => rfl
    | true => have := hi.inn j hb; omega
theorem pl_loop (hy : code yieldNo = none) (ht : KnowsTz code ext) {W B : List Nat} {e : Nat} (hi : HI W B e) (s : St) (hs : s.tidy [0, 2, 3, 5] = ⟨8, plEnv 0, plBase W B e nilS⟩) :
    ∃ x s', den code ext (.loop [0, 2, 3, 5] x180L1) s = some (x, s') ∧ x ≠ .normal ∧ (x = .exit 0 ∧ ∃ out tail a, PlShape (placesTo B e) out tail ∧ s' = ⟨8, plEnv a ++ [(10, avb false)], plBase W B e out ++ tail⟩) := by
  refine loop_rule (fun n s => ∃ a out tail, n + a = 2000000 ∧ a ≤ 1048640 ∧ PlShape (placesTo B a) out tail ∧ s.tidy [0, 2, 3, 5] = ⟨8, plEnv a, plBase W B e out ++ tail⟩) _ ?_ 2000000 s ⟨0, nilS, [], rfl, by omega, .inl ⟨rfl, rfl, rfl⟩, hs⟩
  clear hs s
  rintro n s ⟨a, out, tail, hn, ha, hsh, hs⟩
  rw [hs]
  rcases Nat.lt_or_ge a e with h | h
  · obtain ⟨s', a', out', tail', g1, g2, g3, g4, g5⟩ := pl_step (code := code) (ext := ext) hy ht hi a h out tail hsh
    exact ⟨.normal, s', g1, .inl ⟨rfl, n - (a' - a), by omega, a', out', tail', by omega, g3, g4, g5⟩⟩
  · rw [hi.above h] at hsh
    have e1 : ¬ ((a : Int) < e) := by omega
    have e2 : ¬ (a < e) := by omega
    refine ⟨.exit 0, ⟨8, plEnv a ++ [(10, avb false)], plBase W B e out ++ tail⟩, ?_, .inr ⟨by simp, rfl, out, tail, a, hsh, rfl⟩⟩
    simp -implicitDefEqProofs [-intBin, -shiftBin, b_lss, x180L1, e1, e2]
theorem iter_places (h : code 180 = some x180) (hy : code yieldNo = none) (ht : KnowsTz code ext) {W B : List Nat} {e : Nat} (hi : HI W B e) :
    ∃ out tail, PlShape (placesTo B e) out tail ∧ callW code ext 180 [.yld 0, .optr 1 0, .optr 2 0, .optr 3 0] (plBase W B e nilS) = some (.tup [], plBase W B e out ++ tail) := by
  obtain ⟨x, s', h1, _, rfl, out, tail, a, hsh, rfl⟩ := pl_loop (code := code) (ext := ext) hy ht hi ⟨8, plEnv 0, plBase W B e nilS⟩ (by simp -implicitDefEqProofs [])
  refine ⟨out, tail, hsh, ?_⟩
  rw [callW_fun code ext h]
  have p2 := pcells_refs
  have p3 := pcells_ren
  simp only [plEnv, Int.natCast_zero, List.cons_append, List.nil_append] at h1
  rcases hsh with ⟨_, rfl, rfl⟩ | ⟨y, _, rfl, rfl⟩ | ⟨h2l, rfl, rfl⟩ <;> simp -implicitDefEqProofs [x180, h1, p2, p3]
theorem all_spec (h : code 179 = some x179) (W B : List Nat) (e : Nat) (lo hi : AV) (hlo : ∃ v, lo = .imm v) (hhi : ∃ v, hi = .imm v) :
    callW code ext 179 [.optr 0 0, lo, hi] (hMem W B e) = some (.clo 180 [.optr 3 0, .optr 4 0, .optr 5 0], hMem W B e ++ [.rich [lo], .rich [hi], .rich [.optr 0 0]]) := by
  obtain ⟨lo, rfl⟩ := hlo
  obtain ⟨hi, rfl⟩ := hhi
  rw [callW_fun code ext h]
  simp -implicitDefEqProofs [x179]
def plVal (l : List Nat) (k : Nat) : AV × Mem :=
  match l with
  | [] => (nilS, [])
  | [y] => (.osl k 0 1 1 none, [.flat [i64v y] false])
  | l => (.osl k 0 1 l.length none, [.rich (pcells l)])
theorem PlShape.val {l : List Nat} {out : AV} {tail : Mem} (h : PlShape l out tail) : (out, tail) = plVal l 8 := by
  rcases h with ⟨rfl, rfl, rfl⟩ | ⟨y, rfl, rfl, rfl⟩ | ⟨h2, rfl, rfl⟩
  · rfl
  · rfl
  · match l, h2 with
    | _ :: _ :: _, _ => rfl
theorem places_spec (c : Smalls code) (h : code 173 = some x173) (h179 : code 179 = some x179) (h180 : code 180 = some x180) (hy : code yieldNo = none) (ht : KnowsTz code ext) {W B : List Nat} {e : Nat} (hi : HI W B e) :
    callW code ext 173 [.optr 0 0] (hMem W B e) = some ((plVal (placesTo B e) 3).1, hMem W B e ++ (plVal (placesTo B e) 3).2) := by
  have hg := gone_spec (ext := ext) c.c182 W B e hi.pos
  have ha := all_spec (ext := ext) h179 W B e (int64 0) (int64 e) ⟨_, rfl⟩ ⟨_, rfl⟩
  obtain ⟨out, tail, hsh, hit⟩ := iter_places (code := code) (ext := ext) h180 hy ht hi
  have p2 := pcells_refs
  have p3 := pcells_ren
  have hst : x173L1.still = true := rfl
  rw [callW_fun code ext h]
  have hv := hsh.val
  rcases hsh with ⟨hl, rfl, rfl⟩ | ⟨y, hl, rfl, rfl⟩ | ⟨h2l, rfl, rfl⟩
  · rw [hl]
    simp -implicitDefEqProofs [x173, hg, ha, den_range, exRange, XCode.still, hst, hit, p2, p3, plVal]
  · rw [hl]
    simp -implicitDefEqProofs [x173, hg, ha, den_range, exRange, XCode.still, hst, hit, p2, p3, plVal]
  · have hpv : plVal (placesTo B e) 3 = (.osl 3 0 1 (placesTo B e).length none, [.rich (pcells (placesTo B e))]) := by
      generalize placesTo B e = l at *
      match l, h2l with
      | _ :: _ :: _, _ => rfl
    rw [hpv]
    generalize placesTo B e = l at *
    simp -implicitDefEqProofs [x173, hg, ha, den_range, exRange, XCode.still, hst, hit, p2, p3]
end
end Go.EX

