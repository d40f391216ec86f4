import Derived.Test.YtbomedbbgfcncaaDoorT2
import Derived.Lib.ItoaLen
set_option linter.unusedVariables false
set_option linter.unusedSimpArgs false
namespace Go.EX
open Go.Lib
section
variable {code : Nat → Option XFun} {ext : Calls'}
def rowB (l : List UInt8) : List IV := l.map fun c => .val (.int .u8 c.toNat)
theorem rowB_len (l : List UInt8) : (rowB l).length = l.length := by simp [rowB]
theorem rowB_snoc (l : List UInt8) (c : UInt8) : rowB l ++ [.val (.int .u8 c.toNat)] = rowB (l ++ [c]) := by simp [rowB]
theorem rowB_set (l : List UInt8) (i : Nat) (c : UInt8) : (rowB l).set i (.val (.int .u8 c.toNat)) = rowB (l.set i c) := by simp [rowB, List.map_set]
theorem rowB_get (l : List UInt8) (i : Nat) (c : UInt8) (h : l[i]? = some c) : (rowB l)[i]? = some (.val (.int .u8 c.toNat)) := by simp [rowB, h]
theorem rowB_one (c : UInt8) : rowB [c] = [.val (.int .u8 c.toNat)] := rfl
abbrev uint64 (n : Int) : AV := .imm (.val (.int .u64 n))
theorem digit_at (m : Nat) (h : m < 10) : ((UInt8.ofNat (48 + m)).toNat : Int) = 48 + (m : Int) := by
  rw [UInt8.toNat_ofNat']; omega
theorem digit_wrap (x : Int) (m : Nat) (h : m < 10) (hx : x = m) : IntKind.wrap .u8 (IntKind.wrap .u64 (48 + x)) = ((UInt8.ofNat (48 + m)).toNat : Int) := by
  rw [digit_at m h, hx]
  unfold IntKind.wrap
  simp [IntKind.bits, IntKind.signed]
  omega
def bV (l : List UInt8) : AV := if l.length = 0 then nilS else .osl 0 0 1 l.length none
def bM (l : List UInt8) : Mem := if l.length = 0 then [] else [.flat (rowB l) false]
theorem push_loop (n : Int) (T : List UInt8) (hT : T.length ≤ 1000) : ∀ (k : Nat) (s : St), (∃ (m : Nat) (bs : List UInt8), m ≤ k ∧ m < 18446744073709551616 ∧ bs ++ (decDigits m).reverse = T ∧ s.tidy [0, 3, 4] = ⟨0, [(0, int64 n), (3, uint64 m), (4, bV bs)], bM bs⟩) →
    ∃ e s', den code ext (.loop [0, 3, 4] x501L1) s = some (e, s') ∧ e ≠ .normal ∧ e = .exit 0 ∧ ∃ (m : Nat) (bs : List UInt8), m < 10 ∧ bs ++ [UInt8.ofNat (48 + m)] = T ∧ s' = ⟨0, [(0, int64 n), (3, uint64 m), (4, bV bs), (14, avb false)], bM bs⟩ := by
  refine loop_rule _ _ ?_
  rintro k s ⟨m, bs, hm, hm64, hbs, hst⟩
  rw [hst]
  by_cases h : m < 10
  · have h9 : ¬ (9 : Int) < m := by omega
    rw [decDigits, dif_pos h] at hbs
    refine ⟨.exit 0, ⟨0, [(0, int64 n), (3, uint64 m), (4, bV bs), (14, avb false)], bM bs⟩, ?_, .inr ⟨by simp, rfl, m, bs, h, by simpa using hbs, rfl⟩⟩
    unfold bV bM
    by_cases hb : bs.length = 0
    · rw [if_pos hb, if_pos hb]
      simp -implicitDefEqProofs [x501L1, h9]
    · rw [if_neg hb, if_neg hb]
      simp -implicitDefEqProofs [x501L1, h9]
  · have h9 : (9 : Int) < m := by omega
    rw [decDigits, dif_neg h] at hbs
    have hd := digit_wrap ((m : Int).tmod 10) (m % 10) (by omega) (by rw [Int.tmod_eq_emod_of_nonneg (by omega)]; omega)
    have hq : IntKind.wrap .u64 ((m : Int) / 10) = ((m / 10 : Nat) : Int) := by rw [wrapU64 (by omega) (by omega)]; omega
    have hq2 : IntKind.wrap .u64 ((m : Int).tdiv 10) = ((m / 10 : Nat) : Int) := by rw [Int.tdiv_eq_ediv_of_nonneg (by omega)]; exact hq
    have hbs' : (bs ++ [UInt8.ofNat (48 + m % 10)]) ++ (decDigits (m / 10)).reverse = T := by
      rw [← hbs, List.reverse_append]; simp
    have hlen : bs.length + 1 ≤ 1000 := by
      have := congrArg List.length hbs'
      simp only [List.length_append, List.length_cons, List.length_nil] at this
      omega
    have hsn := rowB_snoc bs (UInt8.ofNat (48 + m % 10))
    have hln := rowB_len bs
    generalize hc : UInt8.ofNat (48 + m % 10) = c at *
    have hn1 : (bs ++ [c]).length ≠ 0 := by simp
    by_cases hb : bs.length = 0
    · have hb0 : bs = [] := List.eq_nil_of_length_eq_zero hb
      subst hb0
      refine ⟨.normal, ⟨0, [(0, int64 n), (3, uint64 (m / 10 : Nat)), (4, .osl 1 0 1 1 none)], [.flat (rowB [c]) false, .flat (rowB [c]) false]⟩, ?_, .inl ⟨rfl, m / 10, by omega, m / 10, [c], by omega, by omega, hbs', ?_⟩⟩
      · simp -implicitDefEqProofs [x501L1, h9, exAppendX, exAppend, elems, bV, bM, hd, hq, hq2, rowB]
      · simp -implicitDefEqProofs [bV, bM]
    · refine ⟨.normal, ⟨0, [(0, int64 n), (3, uint64 (m / 10 : Nat)), (4, .osl 0 0 1 (bs.length + 1) none)], [.flat (rowB (bs ++ [c])) false, .flat (rowB [c]) false]⟩, ?_, .inl ⟨rfl, m / 10, by omega, m / 10, bs ++ [c], by omega, by omega, hbs', ?_⟩⟩
      · have hcut : cut (rowB bs) 0 bs.length = some (rowB bs) := cut_all _ hln
        have hle : bs.length ≤ 140737488355327 := by omega
        simp -implicitDefEqProofs [x501L1, h9, exAppendX, exAppend, elems, bV, bM, hb, hd, hq, hq2, hcut, hle, hsn, rowB_one]
      · simp -implicitDefEqProofs [bV, bM]
theorem u8s_row (l : List UInt8) : u8s (rowB l) = some (l.map fun c => (c.toNat : Int)) := by
  induction l with
  | nil => rfl
  | cons c l ih =>
    have : rowB (c :: l) = .val (.int .u8 c.toNat) :: rowB l := rfl
    rw [this]
    simp [u8s, ih]
theorem strOf_row (l : List UInt8) (n : Nat) (h : l.length = n) : strOfV [.flat (rowB l) false] (.osl 0 0 1 n none) = some ⟨l.toArray⟩ := by
  have hc : cut (rowB l) 0 n = some (rowB l) := cut_all _ (by rw [rowB_len, h])
  simp only [strOfV, elems, List.getElem?_cons_zero, Nat.mul_one, hc, Option.map_some, u8s_row, pushAll_eq]
  congr 2
  simp
  have : ((fun n : Int => UInt8.ofNat n.toNat) ∘ fun c : UInt8 => (c.toNat : Int)) = id := by
    funext c
    simp
  rw [this]; simp
def swapAt (T l : List UInt8) (i : Nat) : Prop := l.length = T.length ∧ ∀ j, j < T.length → l[j]? = if j < i ∨ T.length - 1 - j < i then T[T.length - 1 - j]? else T[j]?
theorem swap_start (T : List UInt8) : swapAt T T 0 := ⟨rfl, fun j h => by simp⟩
theorem swap_end {T l : List UInt8} {i : Nat} (h : swapAt T l i) (hi : T.length ≤ 2 * i + 1) : l = T.reverse := by
  obtain ⟨h1, h2⟩ := h
  refine List.ext_getElem? fun j => ?_
  by_cases hj : j < T.length
  · rw [h2 j hj, List.getElem?_reverse hj]
    split
    · rfl
    · congr 1; omega
  · rw [List.getElem?_eq_none (by omega), List.getElem?_eq_none (by simp; omega)]
theorem swap_step {T l : List UInt8} {i : Nat} (h : swapAt T l i) (hi : 2 * i + 1 < T.length) {c d : UInt8} (hc : l[i]? = some c) (hd : l[T.length - 1 - i]? = some d) : swapAt T ((l.set i d).set (T.length - 1 - i) c) (i + 1) := by
  obtain ⟨h1, h2⟩ := h
  refine ⟨by simp [h1], fun j hj => ?_⟩
  rw [h2 i (by omega), if_neg (by omega)] at hc
  rw [h2 _ (by omega), if_neg (by omega)] at hd
  rw [List.getElem?_set]
  by_cases e1 : T.length - 1 - i = j
  · subst e1
    rw [if_pos rfl, if_pos (by simp; omega), if_pos (by omega), ← hc]
    congr 1; omega
  · rw [if_neg e1, List.getElem?_set]
    by_cases e2 : i = j
    · subst e2
      rw [if_pos rfl, if_pos (by omega), if_pos (by omega), hd]
    · rw [if_neg e2, h2 j hj]
      by_cases q : j < i ∨ T.length - 1 - j < i
      · rw [if_pos q, if_pos (by omega)]
      · rw [if_neg q, if_neg (by omega)]
theorem rev_loop (T : List UInt8) (h0 : 0 < T.length) (hT : T.length ≤ 1000) : ∀ (k : Nat) (s : St), (∃ (i : Nat) (l : List UInt8), i + k = T.length ∧ swapAt T l i ∧ s.tidy [4, 5] = ⟨0, [(4, .osl 0 0 1 T.length none), (5, int64 i)], [.flat (rowB l) false]⟩) →
    ∃ e s', den code ext (.loop [4, 5] x501L2) s = some (e, s') ∧ e ≠ .normal ∧ e = .exit 2 ∧ ∃ x y, s' = ⟨0, [(4, .osl 0 0 1 T.length none), (5, x), (40, y)], [.flat (rowB T.reverse) false]⟩ := by
  refine loop_rule _ _ ?_
  rintro k s ⟨i, l, hk, hl, hst⟩
  rw [hst]
  have e1 : IntKind.wrap .i64 (2 * (i : Int)) = 2 * i := wrapI64 (by omega) (by omega)
  have e2 : IntKind.wrap .i64 ((T.length : Int) - 1) = T.length - 1 := wrapI64 (by omega) (by omega)
  by_cases hlt : 2 * i + 1 < T.length
  · have hlt' : 2 * (i : Int) < (T.length : Int) - 1 := by omega
    have e3 : IntKind.wrap .i64 ((T.length : Int) - 1 - i) = ((T.length - 1 - i : Nat) : Int) := by rw [wrapI64 (by omega) (by omega)]; omega
    have e4 : IntKind.wrap .i64 ((i : Int) + 1) = (i : Int) + 1 := wrapI64 (by omega) (by omega)
    obtain ⟨h1, h2⟩ := hl
    have hc : l[i]? = some (l[i]'(by omega)) := List.getElem?_eq_getElem (by omega)
    have hd : l[T.length - 1 - i]? = some (l[T.length - 1 - i]'(by omega)) := List.getElem?_eq_getElem (by omega)
    generalize l[i]'(by omega) = c at hc
    generalize l[T.length - 1 - i]'(by omega) = d at hd
    have hs := swap_step ⟨h1, h2⟩ hlt hc hd
    have gc := rowB_get l i c hc
    have gd := rowB_get l _ d hd
    have s1 : setAll (rowB l) i [.val (.int .u8 d.toNat)] = rowB (l.set i d) := rowB_set l i d
    have s2 : setAll (rowB (l.set i d)) (T.length - 1 - i) [.val (.int .u8 c.toNat)] = rowB ((l.set i d).set (T.length - 1 - i) c) := rowB_set _ _ c
    have b1 : i + 1 ≤ (rowB l).length := by rw [rowB_len]; omega
    have b2 : T.length - 1 - i + 1 ≤ (rowB (l.set i d)).length := by rw [rowB_len, List.length_set]; omega
    have b3 : i < T.length := by omega
    have b4 : T.length - 1 - i < T.length := by omega
    have b5 : (i : Int) < T.length := by omega
    generalize T.length - 1 - i = q at *
    refine ⟨.normal, ⟨0, [(4, .osl 0 0 1 T.length none), (5, int64 ((i : Int) + 1))], [.flat (rowB ((l.set i d).set q c)) false]⟩, ?_, .inl ⟨rfl, k - 1, by omega, i + 1, _, by omega, hs, ?_⟩⟩
    · simp -implicitDefEqProofs [x501L2, hlt', e1, e2, e3, e4, gc, gd, s1, s2, b1, b2, b3, b4, b5]
    · simp -implicitDefEqProofs
  · have hlt' : ¬ 2 * (i : Int) < (T.length : Int) - 1 := by omega
    have := swap_end hl (by omega)
    subst this
    refine ⟨.exit 2, ⟨0, [(4, .osl 0 0 1 T.length none), (5, int64 i), (40, avb false)], [.flat (rowB T.reverse) false]⟩, ?_, .inr ⟨by simp, rfl, _, _, rfl⟩⟩
    simp -implicitDefEqProofs [x501L2, hlt', e1, e2]
theorem digits_spec (h : code 501 = some x501) (n : Int) (hn : (tInt .i64).wf n) : callW code ext 501 [int64 n] [] = some (strV (dig n), []) := by
  obtain ⟨h0, h1⟩ := wfI64.1 hn
  have hU : n.natAbs < 18446744073709551616 := by omega
  have hlen := Go.Lib.itoa_length_le n h0 h1
  have hT : (decDigits n.natAbs).reverse.length ≤ 30 := by
    unfold Go.Lib.itoa at hlen
    split at hlen
    · simp only [List.length_cons] at hlen
      rw [List.length_reverse]; omega
    · rw [show n.toNat = n.natAbs by omega] at hlen
      rw [List.length_reverse]; omega
  obtain ⟨w, w1, w2, w3⟩ : ∃ w : Int, IntKind.wrap .u64 n = w ∧ (n < 0 → IntKind.wrap .u64 (0 - w) = (n.natAbs : Nat) ∧ IntKind.wrap .u64 (-w) = (n.natAbs : Nat)) ∧ (¬ n < 0 → w = (n.natAbs : Nat)) := by
    refine ⟨_, rfl, fun h => ?_, fun h => ?_⟩
    · have : IntKind.wrap .u64 n = n + 18446744073709551616 := by
        unfold IntKind.wrap
        simp [IntKind.bits, IntKind.signed]
        omega
      rw [this, Int.zero_sub]
      refine ⟨?_, ?_⟩ <;>
      · unfold IntKind.wrap
        simp [IntKind.bits, IntKind.signed]
        omega
    · rw [wrapU64 (by omega) (by omega)]; omega
  obtain ⟨e, s', l1, _, rfl, m, bs, hm, hbs, rfl⟩ := push_loop (code := code) (ext := ext) n (decDigits n.natAbs).reverse (by omega) n.natAbs ⟨0, [(0, int64 n), (3, uint64 (n.natAbs : Nat)), (4, nilS)], []⟩ ⟨n.natAbs, [], Nat.le_refl _, hU, by simp, by simp -implicitDefEqProofs [bV, bM]⟩
  have hd := digit_wrap (m : Int) m hm rfl
  have hln := rowB_len bs
  have hsn := rowB_snoc bs (UInt8.ofNat (48 + m))
  have hbl : bs.length + 1 ≤ 30 := by
    have := congrArg List.length hbs
    simp only [List.length_append, List.length_cons, List.length_nil] at this
    omega
  have hsm := rowB_snoc (bs ++ [UInt8.ofNat (48 + m)]) 45
  have h45 : ((45 : UInt8).toNat : Int) = 45 := rfl
  rw [h45] at hsm
  have hln2 := rowB_len (bs ++ [UInt8.ofNat (48 + m)])
  have hlc : (bs ++ [UInt8.ofNat (48 + m)]).length = bs.length + 1 := by simp
  generalize hc : UInt8.ofNat (48 + m) = c at *
  have hcut : cut (rowB bs) 0 bs.length = some (rowB bs) := cut_all _ hln
  have hcut2 : cut (rowB (bs ++ [c])) 0 (bs.length + 1) = some (rowB (bs ++ [c])) := cut_all _ (by rw [hln2, hlc])
  have hle : bs.length ≤ 140737488355327 := by omega
  have hle2 : bs.length + 1 ≤ 140737488355327 := by omega
  have hle3 : bs.length ≤ 140737488355326 := by omega
  rw [callW_fun code ext h]
  have key := fun T hT0 hT1 s hst => rev_loop (code := code) (ext := ext) T hT0 hT1 T.length s ⟨0, T, by omega, swap_start T, hst⟩
  have L2 : ∀ T : List UInt8, 0 < T.length → T.length ≤ 1000 → ∀ s : St, s.tidy [4, 5] = ⟨0, [(4, .osl 0 0 1 T.length none), (5, int64 0)], [.flat (rowB T) false]⟩ → ∃ x y, den code ext (.loop [4, 5] x501L2) s = some (.exit 2, ⟨0, [(4, .osl 0 0 1 T.length none), (5, x), (40, y)], [.flat (rowB T.reverse) false]⟩) := by
    intro T hT0 hT1 s hst
    obtain ⟨e, s', h1, _, rfl, x, y, rfl⟩ := key T hT0 hT1 s hst
    exact ⟨x, y, h1⟩
  clear key
  have stR : ∀ T : List UInt8, strOfV [.flat (rowB T.reverse) false] (.osl 0 0 1 T.length none) = some ⟨T.reverse.toArray⟩ := fun T => strOf_row _ _ (by simp)
  by_cases hneg : n < 0
  · obtain ⟨w2, w4⟩ := w2 hneg
    have hi : dig n = ⟨((bs ++ [c] ++ [45]).reverse).toArray⟩ := by
      unfold dig Go.Lib.itoa
      rw [if_pos hneg, hbs]
      simp
    rw [hi]
    obtain ⟨x, y, l2⟩ := L2 (bs ++ [c] ++ [45]) (by simp) (by simp; omega) ⟨0, [(4, .osl 0 0 1 (bs ++ [c] ++ [45]).length none), (5, int64 0)], [.flat (rowB (bs ++ [c] ++ [45])) false, .flat [.val (.int .u8 c.toNat)] false, .flat [.val (.int .u8 45)] false]⟩ (by simp -implicitDefEqProofs)
    obtain ⟨x', y', l3⟩ := L2 (bs ++ [c] ++ [45]) (by simp) (by simp; omega) ⟨0, [(4, .osl 1 0 1 (bs ++ [c] ++ [45]).length none), (5, int64 0)], [.flat [.val (.int .u8 c.toNat)] false, .flat (rowB (bs ++ [c] ++ [45])) false, .flat [.val (.int .u8 45)] false]⟩ (by simp -implicitDefEqProofs)
    have hs := stR (bs ++ [c] ++ [45])
    have hl3 : (bs ++ [c] ++ [45]).length = bs.length + 1 + 1 := by simp
    rw [hl3] at l2 l3 hs
    generalize bs ++ [c] ++ [45] = T at *
    unfold x501
    generalize x501L1 = L1 at *
    generalize x501L2 = L2 at *
    by_cases hb : bs.length = 0
    · have hb0 : bs = [] := List.eq_nil_of_length_eq_zero hb
      subst hb0
      simp only [List.nil_append, List.length_nil, Nat.zero_add, rowB_one, bV, bM, if_true] at *
      simp -implicitDefEqProofs [w1, w2, w4, hneg, l1, exAppendX, exAppend, elems, hd, hsm, l3, hs]
    · simp only [bV, bM, hb, if_false] at l1
      simp -implicitDefEqProofs [w1, w2, w4, hneg, l1, exAppendX, exAppend, elems, hd, hcut, hcut2, hle, hle2, hle3, hsn, hsm, l2, hs]
  · have w3 := w3 hneg
    have hi : dig n = ⟨((bs ++ [c]).reverse).toArray⟩ := by
      unfold dig Go.Lib.itoa
      rw [if_neg hneg, hbs, show n.toNat = n.natAbs by omega]
      simp
    rw [hi]
    obtain ⟨x, y, l2⟩ := L2 (bs ++ [c]) (by simp) (by simp; omega) ⟨0, [(4, .osl 0 0 1 (bs ++ [c]).length none), (5, int64 0)], [.flat (rowB (bs ++ [c])) false, .flat [.val (.int .u8 c.toNat)] false]⟩ (by simp -implicitDefEqProofs)
    obtain ⟨x', y', l3⟩ := L2 (bs ++ [c]) (by simp) (by simp; omega) ⟨0, [(4, .osl 1 0 1 (bs ++ [c]).length none), (5, int64 0)], [.flat [.val (.int .u8 c.toNat)] false, .flat (rowB (bs ++ [c])) false]⟩ (by simp -implicitDefEqProofs)
    have hs := stR (bs ++ [c])
    rw [hlc] at l2 l3 hs
    unfold x501
    generalize x501L1 = L1 at *
    generalize x501L2 = L2 at *
    by_cases hb : bs.length = 0
    · have hb0 : bs = [] := List.eq_nil_of_length_eq_zero hb
      subst hb0
      simp only [List.nil_append, List.length_nil, Nat.zero_add, List.reverse_singleton, rowB_one, bV, bM, if_true] at *
      simp -implicitDefEqProofs [w1, w3, hneg, l1, exAppendX, exAppend, elems, hd, l3, hs]
    · simp only [bV, bM, hb, if_false] at l1
      generalize hTT : bs ++ [c] = T at *
      simp -implicitDefEqProofs [w1, w3, hneg, l1, exAppendX, exAppend, elems, hd, hcut, hle, hsn, l2, hs]
end
end Go.EX

