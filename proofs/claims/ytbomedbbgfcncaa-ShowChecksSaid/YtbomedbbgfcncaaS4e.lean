/-
  EX: law 04: the reference's words.
-/
import Derived.Test.YtbomedbbgfcncaaS4d
import Derived.Test.YtbomedbbgfcncaaL4
set_option linter.unusedVariables false
set_option linter.unusedSimpArgs false
namespace Go.EX

section
variable {code : Nat → Option XFun} {ext : Calls'}

def leadInt (S : List Obj) (v : Val) : Int := match leadsOf S v with
  | some k => (k : Nat)
  | none => -1

theorem leads_spec (h : code 502 = some x502) {sv : IV} {S : List Obj} (hr : Reads tObj sv S) (v : Val) : callW code ext 502 [.imm sv, .agg [.imm (.val (.int .u8 v.k)), int64 v.n]] [] = some (int64 (leadInt S v), []) := by
  rw [callW_fun code ext h]
  have hlen := reads_len hr
  have hb := hr.2.1
  unfold leadInt leadsOf
  by_cases c1 : v.k < 3
  · simp -implicitDefEqProofs [x502, c1]
  by_cases c2 : 7 < v.k
  · simp -implicitDefEqProofs [x502, c1, c2]
  by_cases c3 : v.n < 1
  · simp -implicitDefEqProofs [x502, c1, c2, c3]
  by_cases c4 : (S.length : Int) < v.n
  · simp -implicitDefEqProofs [x502, c1, c2, c3, c4, hlen]
  obtain ⟨vk, vn⟩ := v
  simp only at c1 c2 c3 c4 ⊢
  obtain ⟨p, rfl⟩ : ∃ p : Nat, vn = (p : Int) + 1 := ⟨(vn - 1).toNat, by omega⟩
  have hlt : p < S.length := by omega
  obtain ⟨row, off, cap, rfl, hc, hcut, hget⟩ := reads_pos hr (List.getElem?_eq_getElem hlt)
  have ep : ((p : Int) + 1 - 1).toNat = p := by omega
  rw [if_neg c1, if_neg c2, if_neg c3, if_neg c4, ep, List.getElem?_eq_getElem hlt]
  generalize S[p] = o at hget
  simp only [tObj] at hget
  have g0 : row[off + p * 5]? = some (.val (.int .u8 o.k)) := cut_get hget 0 (by omega)
  have e1 : IntKind.wrap .i64 (p : Int) = p := wrapI64 (by omega) (by omega)
  by_cases c5 : o.k = vk
  · simp -implicitDefEqProofs [x502, c1, c2, c3, c4, hlen, e1, g0, c5, hlt]
  · simp -implicitDefEqProofs [x502, c1, c2, c3, c4, hlen, e1, g0, c5, hlt]

/-- The stack: nil, or the front of an object. -/
def todoAV (T : List Val) (b : Bool) : AV := if b then .osl 1 0 2 T.length none else nilS

theorem reached_loop (h : code 502 = some x502) (sv : IV) (S : List Obj) (roots : List Val) (hr : Reads tObj sv S) (hM : roots.length + unm (List.replicate S.length false) S ≤ 100000000) {s : St} (C : List IV) (mv : Bool) (hC : cut C 0 (roots.length * 2) = some (tVal.row roots))
    (hst : s.tidy [0, 5, 6] = ⟨0, [(0, .imm sv), (5, .osl 0 0 1 S.length (some S.length)), (6, .osl 1 0 2 roots.length none)], [.flat (tBool.row (List.replicate S.length false)) false, .flat C mv]⟩) :
    ∃ e s', den code ext (.loop [0, 5, 6] x509L1) s = some (e, s') ∧ e ≠ .normal ∧
      (e = .exit 0 ∧ ∃ F C' mv', Marks S roots F [] ∧ s' = ⟨0, [(0, .imm sv), (5, .osl 0 0 1 S.length (some S.length)), (6, .osl 1 0 2 0 none), (16, avb false)], [.flat (tBool.row F) false, .flat C' mv']⟩) := by
  refine loop_rule (fun n s => ∃ (F : List Bool) (T : List Val) (C : List IV) (mv : Bool), n = T.length + unm F S ∧ n ≤ 100000000 ∧ Marks S roots F T ∧ cut C 0 (T.length * 2) = some (tVal.row T) ∧
    s.tidy [0, 5, 6] = ⟨0, [(0, .imm sv), (5, .osl 0 0 1 S.length (some S.length)), (6, .osl 1 0 2 T.length none)], [.flat (tBool.row F) false, .flat C mv]⟩) _ ?_ _ _ ⟨_, roots, C, mv, rfl, hM, .start S roots, hC, hst⟩
  clear hst hC C mv s hM
  rintro n s ⟨F, T, C, mv, hn, hnb, hI, hC, hst⟩
  rw [hst]
  have hFl := hI.len
  rcases List.eq_nil_or_concat T with rfl | ⟨T0, v, rfl⟩
  · refine ⟨.exit 0, ⟨0, [(0, .imm sv), (5, .osl 0 0 1 S.length (some S.length)), (6, .osl 1 0 2 0 none), (16, avb false)], [.flat (tBool.row F) false, .flat C mv]⟩, ?_, .inr ⟨by simp, rfl, F, C, mv, hI, rfl⟩⟩
    simp -implicitDefEqProofs [x509L1]
  · have hlv := leads_spec (ext := ext) h hr v
    have e0 : (0 : Int) < (T0.length : Int) + 1 := by omega
    simp only [List.length_append, List.length_cons, List.length_nil, Nat.zero_add, List.concat_eq_append] at hn hC hI ⊢
    have e1 : IntKind.wrap .i64 (T0.length : Int) = T0.length := wrapI64 (by omega) (by omega)
    have e2 : ((T0.length : Int) + 1 - 1) = T0.length := by omega
    have e3 : (T0.length : Int) < (T0.length : Int) + 1 := by omega
    have e4 : (T0.length : Int) ≤ (T0.length : Int) + 1 := by omega
    have hcv : cut C (T0.length * 2) 2 = some [.val (.int .u8 v.k), .val (.int .i64 v.n)] := by
      have := cut_cut hC (a := T0.length * 2) (b := 2) (by omega)
      rw [Nat.zero_add] at this
      rw [this]
      exact flat_elem (t := tVal) (i := T0.length) (x := v) (by simp)
    have hc0 : cut C 0 (T0.length * 2) = some (tVal.row T0) := by
      have := cut_cut hC (a := 0) (b := T0.length * 2) (by omega)
      rw [Nat.zero_add] at this
      rw [this]
      exact cut_front tVal T0 [v]
    cases hl : leadsOf S v with
    | none =>
      have hli : leadInt S v = -1 := by simp [leadInt, hl]
      rw [hli] at hlv
      refine ⟨.normal, ⟨0, [(0, .imm sv), (5, .osl 0 0 1 S.length (some S.length)), (6, .osl 1 0 2 T0.length none), (7, int64 (-1)), (38, avb false)], [.flat (tBool.row F) false, .flat C mv]⟩, ?_, .inl ⟨rfl, T0.length + unm F S, by omega, F, T0, C, mv, rfl, by omega, hI.drop (fun j hj => by rw [hl] at hj; cases hj), hc0, ?_⟩⟩
      · simp -implicitDefEqProofs [x509L1, e0, e1, e2, e3, e4, hcv, hlv, exSlice]
      · simp -implicitDefEqProofs
    | some k =>
      have hli : leadInt S v = (k : Nat) := by simp [leadInt, hl]
      rw [hli] at hlv
      obtain ⟨hks, _, _, _, o, ho, _⟩ := leadsOf_some hl
      have hkF : k < F.length := by omega
      have hF := List.getElem?_eq_getElem hkF
      have hks' : (k : Int) < S.length := by omega
      have hfe : (tBool.row F)[k]? = some (.val (.bool F[k])) := by
        have := cut_one (flat_elem (t := tBool) hF)
        rwa [show tBool.sz = 1 from rfl, Nat.mul_one] at this
      cases hb : F[k] with
      | true =>
        rw [hb] at hF hfe
        refine ⟨.normal, ⟨0, [(0, .imm sv), (5, .osl 0 0 1 S.length (some S.length)), (6, .osl 1 0 2 T0.length none), (7, int64 k), (38, avb false)], [.flat (tBool.row F) false, .flat C mv]⟩, ?_, .inl ⟨rfl, T0.length + unm F S, by omega, F, T0, C, mv, rfl, by omega, hI.drop (fun j hj => by rw [hl] at hj; cases hj; exact hF), hc0, ?_⟩⟩
        · simp -implicitDefEqProofs [x509L1, e0, e1, e2, e3, e4, hcv, hlv, exSlice, hks, hks', hfe]
        · simp -implicitDefEqProofs
      | false =>
        rw [hb] at hF hfe
        obtain ⟨row, off, cap, rfl, hc, hcut, hget⟩ := reads_pos hr ho
        simp only [tObj] at hget
        have g2 : row[off + k * 5 + 2]? = some o.l.iv := cut_get hget 2 (by omega)
        have hset := setAll_flat (t := tBool) (xs := F) (by decide) (i := k) (by omega) true
        have hset' : setAll (tBool.row F) k [.val (.bool true)] = tBool.row (F.set k true) := by rw [show tBool.sz = 1 from rfl, Nat.mul_one] at hset; exact hset
        have hle : k + 1 ≤ (tBool.row F).length := by rw [row_len]; simp only [tBool]; omega
        have hel := fun m => elems_reads (t := tVal) m o.l.ok
        rw [show tVal.sz = 2 from rfl] at hel
        have hum := unm_set F S k o hF ho
        have hbd : (T0.length + o.l.xs.length) * 16 ≤ 140737488355328 := by omega
        refine ⟨.normal, ⟨0, [(0, .imm (.slice row off S.length cap)), (5, .osl 0 0 1 S.length (some S.length)), (6, .osl 1 0 2 (T0.length + o.l.xs.length) none)], [.flat (tBool.row (F.set k true)) false, .flat (tVal.row (T0 ++ o.l.xs)) true]⟩, ?_, .inl ⟨rfl, (T0 ++ o.l.xs).length + unm (F.set k true) S, by rw [List.length_append]; omega, F.set k true, T0 ++ o.l.xs, tVal.row (T0 ++ o.l.xs), true, rfl, by rw [List.length_append]; omega, hI.take hl hF ho, cut_row tVal _, ?_⟩⟩
        · simp -implicitDefEqProofs [x509L1, e0, e1, e2, e3, e4, hcv, hlv, exSlice, hks, hks', hfe, g2, hset', hle, exAppendX, exAppend, hel, hc0, hbd, row_append]
        · simp -implicitDefEqProofs

theorem reached_spec (h : code 502 = some x502) (h' : code 509 = some x509) {sv rv : IV} {S : List Obj} {roots : List Val} (hr : Reads tObj sv S) (hq : Reads tVal rv roots) (hM : roots.length + unm (List.replicate S.length false) S ≤ 100000000) (hS : S.length ≤ 1048576) :
    ∃ F, Marks S roots F [] ∧ callW code ext 509 [.imm sv, .imm rv] [] = some (.osl 0 0 1 S.length (some S.length), [.flat (tBool.row F) false]) := by
  have hlen := reads_len hr
  have hlen2 := reads_len hq
  have hz : copies S.length [IV.val (.bool false)] = tBool.row (List.replicate S.length false) := copies_flat (t := tBool) S.length false
  have e1 : (S.length : Int) ≤ 281474976710656 := by omega
  have e2 : (S.length : Int) ≤ 9223372036854775807 := by omega
  have hel := fun m => elems_reads (t := tVal) m hq
  rw [show tVal.sz = 2 from rfl] at hel
  have hbd : roots.length * 16 ≤ 140737488355328 := by omega
  rw [callW_fun code ext h']
  by_cases h0 : roots = []
  · subst h0
    refine ⟨List.replicate S.length false, .start S [], ?_⟩
    have hl : den code ext (.loop [0, 5, 6] x509L1) ⟨0, [(0, .imm sv), (5, .osl 0 0 1 S.length (some S.length)), (6, nilS)], [.flat (tBool.row (List.replicate S.length false)) false]⟩ = some (.exit 0, ⟨0, [(0, .imm sv), (5, .osl 0 0 1 S.length (some S.length)), (6, nilS), (16, avb false)], [.flat (tBool.row (List.replicate S.length false)) false]⟩) := by
      rw [den_loop]
      simp -implicitDefEqProofs [x509L1]
    simp -implicitDefEqProofs [x509, hlen, hz, e1, e2, exAppendX, exAppend, hel, hl]
  · have hne : ¬ roots.length = 0 := fun e => h0 (List.eq_nil_of_length_eq_zero e)
    obtain ⟨e, s', h1, _, rfl, F, C', mv', hI, rfl⟩ := reached_loop (ext := ext) h sv S roots hr hM (tVal.row roots) false (cut_row tVal roots)
      (s := ⟨0, [(0, .imm sv), (5, .osl 0 0 1 S.length (some S.length)), (6, .osl 1 0 2 roots.length none)], [.flat (tBool.row (List.replicate S.length false)) false, .flat (tVal.row roots) false]⟩) (by simp -implicitDefEqProofs)
    refine ⟨F, hI, ?_⟩
    simp -implicitDefEqProofs [x509, hlen, hz, e1, e2, exAppendX, exAppend, hel, hbd, h0, h1]

/-- Words so far: of what is marked among the first. -/
def wordsTo (S : List Obj) (F : List Bool) (i : Nat) : Nat := (((List.range i).filter fun k => F[k]? == some true).map (wordsAt S)).sum

theorem wordsTo_succ (S : List Obj) (F : List Bool) (i : Nat) : wordsTo S F (i + 1) = wordsTo S F i + if F[i]? = some true then wordsAt S i else 0 := by
  unfold wordsTo
  rw [List.range_succ, List.filter_append, List.map_append, List.sum_append]
  congr 1
  by_cases h : F[i]? = some true
  · simp [h]
  · have : (F[i]? == some true) = false := by simp [h]
    simp [h, this]

theorem wordsOf_bd (o : Obj) (hw : tObj.wf o) (hr : o.room ≤ 1099511627776) : wordsOf o ≤ 3000000000000 ∨ (o.k = 3 ∧ wordsOf o ≤ 17592186044420) ∨ (o.k = 6 ∧ wordsOf o ≤ 300000000000000) := by
  have hs : o.s.size ≤ 140737488355328 := hw.2.1
  have hl := o.l.ok.2.1
  unfold wordsOf
  split
  · right; left; omega
  · split
    · left; split <;> omega
    · split
      · right; right; omega
      · left; omega

end
end Go.EX
