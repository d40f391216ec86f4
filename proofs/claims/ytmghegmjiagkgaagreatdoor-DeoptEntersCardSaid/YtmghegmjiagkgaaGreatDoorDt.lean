/-
  EX: the reference's Enter.
-/
import Derived.Test.YtmghegmjiagkgaaGreatDoorDv
set_option linter.unusedVariables false
set_option linter.unusedSimpArgs false
namespace Go.EX
section
variable {code : Nat → Option XFun} {ext : Calls'}

set_option maxHeartbeats 1000000 in
theorem refInner (l : List Int) (lv sv : IV) (hl : Reads (tInt .i64) lv l) (i : Nat) (hi : i < l.length) (at' N : Int) (ev cv xv : IV) (q : Nat) (o1 : List IV) {s : St}
    (hst : s.tidy [1, 2, 3, 9, 10, 11, 12] = ⟨0, [(1, int64 at'), (2, .imm sv), (3, .optr 0 0), (9, .imm lv), (10, .osl 1 0 2 q (some q)), (11, int64 (i : Nat)), (12, int64 0)], [.rich [int64 N, .imm ev, .imm cv, .imm xv], .flat o1 false]⟩) :
    ∃ e s', den code ext (.loop [1, 2, 3, 9, 10, 11, 12] x563L1) s = some (e, s') ∧ e ≠ .normal ∧
      ((e = .exit 2 ∧ l[i] ∉ l.take i ∧ s' = ⟨0, [(1, int64 at'), (2, .imm sv), (3, .optr 0 0), (9, .imm lv), (10, .osl 1 0 2 q (some q)), (11, int64 (i : Nat)), (12, int64 (i : Nat)), (75, avb false)], [.rich [int64 N, .imm ev, .imm cv, .imm xv], .flat o1 false]⟩) ∨
       (e = .ret ∧ l[i] ∈ l.take i ∧ s' = ⟨0, [(6, .imm (.val (.slice none 0 0))), (7, int64 0), (8, int64 1)], [.rich [int64 N, .imm ev, .imm cv, .imm xv], .flat o1 false]⟩)) := by
  refine loop_rule (fun n s => ∃ j, j + n = i ∧ l[i] ∉ l.take j ∧ s.tidy [1, 2, 3, 9, 10, 11, 12] = ⟨0, [(1, int64 at'), (2, .imm sv), (3, .optr 0 0), (9, .imm lv), (10, .osl 1 0 2 q (some q)), (11, int64 (i : Nat)), (12, int64 (j : Nat))], [.rich [int64 N, .imm ev, .imm cv, .imm xv], .flat o1 false]⟩) _ ?_ i _ ⟨0, by simp, by simp, hst⟩
  clear hst
  rintro n s ⟨j, hj, hno, hst⟩
  rw [hst]
  by_cases hlt : j < i
  · have hjl : j < l.length := by omega
    obtain ⟨row, off, cap, rfl, hc, hcut, hget⟩ := reads_pos hl (List.getElem?_eq_getElem hjl)
    have hcell := cut_one (by simpa [tInt] using hget)
    have hget2 := flat_elem (t := tInt .i64) (List.getElem?_eq_getElem hi)
    have hcell2 : row[off + i]? = some (.val (.int .i64 l[i])) := by
      have h2 := cut_cut hcut (a := i * 1) (b := 1) (by simp only [tInt]; omega)
      have h3 : cut (tInt .i64 |>.row l) (i * 1) 1 = some [.val (.int .i64 l[i])] := hget2
      have h4 : cut row (off + i * 1) 1 = some [.val (.int .i64 l[i])] := by rw [h2]; exact h3
      have := cut_one h4
      rwa [Nat.mul_one] at this
    have hb := hl.2.1
    have e1 : IntKind.wrap .i64 ((j : Int) + 1) = (j : Int) + 1 := wrapI64 (by omega) (by omega)
    have htk : l.take (j + 1) = l.take j ++ [l[j]] := by rw [List.take_add_one, List.getElem?_eq_getElem hjl]; rfl
    by_cases he : l[j] = l[i]
    · refine ⟨.ret, ⟨0, [(6, .imm (.val (.slice none 0 0))), (7, int64 0), (8, int64 1)], [.rich [int64 N, .imm ev, .imm cv, .imm xv], .flat o1 false]⟩, ?_, .inr ⟨by simp, .inr ⟨rfl, ?_, rfl⟩⟩⟩
      · simp -implicitDefEqProofs [x563L1, hlt, hjl, hi, hcell, hcell2, he]
      · rw [← he, List.mem_take_iff_getElem]
        exact ⟨j, by omega, rfl⟩
    · refine ⟨.normal, ⟨0, [(1, int64 at'), (2, .imm sv), (3, .optr 0 0), (9, .imm (.slice row off l.length cap)), (10, .osl 1 0 2 q (some q)), (11, int64 (i : Nat)), (12, int64 ((j : Int) + 1))], [.rich [int64 N, .imm ev, .imm cv, .imm xv], .flat o1 false]⟩, ?_, .inl ⟨rfl, n - 1, by omega, j + 1, by omega, ?_, ?_⟩⟩
      · simp -implicitDefEqProofs [x563L1, hlt, hjl, hi, hcell, hcell2, he, e1]
      · rw [htk, List.mem_append, List.mem_singleton]
        rintro (h | h)
        · exact hno h
        · exact he h.symm
      · simp -implicitDefEqProofs
  · have : j = i := by omega
    subst this
    refine ⟨.exit 2, _, ?_, .inr ⟨by simp, .inl ⟨rfl, hno, rfl⟩⟩⟩
    simp -implicitDefEqProofs [x563L1]

set_option maxHeartbeats 4000000 in
theorem refEnter_loop (at' N : Int) (ev cv xv lv sv : IV) (l : List Int) (slots : List Val) (hl : Reads (tInt .i64) lv l) (hS : Reads tVal sv slots) (hn : l.length = slots.length) (hN : 0 ≤ N) {zs : List Val} (hz : zs.length = N.toNat) {s : St}
    (hst : s.tidy [1, 2, 3, 9, 10, 11] = ⟨0, [(1, int64 at'), (2, .imm sv), (3, .optr 0 0), (9, .imm lv), (10, .osl 1 0 2 N.toNat (some N.toNat)), (11, int64 0)], [.rich [int64 N, .imm ev, .imm cv, .imm xv], .flat (tVal.row zs) false]⟩) :
    ∃ e s', den code ext (.loop [1, 2, 3, 9, 10, 11] x563L2) s = some (e, s') ∧ e ≠ .normal ∧
      ((e = .exit 0 ∧ ∃ vs, enterGo [] (l.zip slots) zs = some vs ∧ vs.length = zs.length ∧ s' = ⟨0, [(1, int64 at'), (2, .imm sv), (3, .optr 0 0), (9, .imm lv), (10, .osl 1 0 2 N.toNat (some N.toNat)), (11, int64 l.length), (56, avb false)], [.rich [int64 N, .imm ev, .imm cv, .imm xv], .flat (tVal.row vs) false]⟩) ∨
       (e = .ret ∧ enterGo [] (l.zip slots) zs = none ∧ s'.k = 0 ∧ s'.env = [(6, .imm (.val (.slice none 0 0))), (7, int64 0), (8, int64 1)])) := by
  refine loop_rule (fun n s => ∃ i cur, i + n = l.length ∧ cur.length = zs.length ∧ enterGo [] (l.zip slots) zs = enterGo (l.take i) ((l.zip slots).drop i) cur ∧
    s.tidy [1, 2, 3, 9, 10, 11] = ⟨0, [(1, int64 at'), (2, .imm sv), (3, .optr 0 0), (9, .imm lv), (10, .osl 1 0 2 N.toNat (some N.toNat)), (11, int64 (i : Nat))], [.rich [int64 N, .imm ev, .imm cv, .imm xv], .flat (tVal.row cur) false]⟩) _ ?_ l.length _ ⟨0, zs, by simp, rfl, by simp, hst⟩
  clear hst
  rintro n s ⟨i, cur, hi, hcl, hx, hst⟩
  rw [hst]
  by_cases hlt : i < l.length
  · have hin := fun s hs => @refInner code ext l lv sv hl i hlt at' N ev cv xv N.toNat (tVal.row cur) s hs
    obtain ⟨row, off, cap, rfl, hc, hcut, hget⟩ := reads_pos hl (List.getElem?_eq_getElem hlt)
    have hcell := cut_one (by simpa [tInt] using hget)
    have hb := hl.2.1
    have hlt' : i < slots.length := by omega
    obtain ⟨row2, off2, cap2, rfl, hc2, hcut2, hget2⟩ := reads_pos hS (List.getElem?_eq_getElem hlt')
    simp only [tVal] at hget2
    have e1 : IntKind.wrap .i64 ((i : Int) + 1) = (i : Int) + 1 := wrapI64 (by omega) (by omega)
    have hzd : (l.zip slots).drop i = (l[i], slots[i]) :: (l.zip slots).drop (i + 1) := by
      rw [List.drop_eq_getElem_cons (by simp; omega)]; simp
    rw [hzd, enterGo] at hx
    have htk : l.take (i + 1) = l.take i ++ [l[i]] := by rw [List.take_add_one, List.getElem?_eq_getElem hlt]; rfl
    by_cases c1 : l[i] < 0
    · rw [if_pos c1] at hx
      refine ⟨.ret, ⟨0, [(6, .imm (.val (.slice none 0 0))), (7, int64 0), (8, int64 1)], [.rich [int64 N, .imm ev, .imm cv, .imm xv], .flat (tVal.row cur) false]⟩, ?_, .inr ⟨by simp, .inr ⟨rfl, hx, rfl, rfl⟩⟩⟩
      simp -implicitDefEqProofs [x563L2, hlt, hcell, c1]
    rw [if_neg c1] at hx
    by_cases c2 : N ≤ l[i]
    · rw [if_pos (by omega)] at hx
      refine ⟨.ret, ⟨0, [(6, .imm (.val (.slice none 0 0))), (7, int64 0), (8, int64 1)], [.rich [int64 N, .imm ev, .imm cv, .imm xv], .flat (tVal.row cur) false]⟩, ?_, .inr ⟨by simp, .inr ⟨rfl, hx, rfl, rfl⟩⟩⟩
      simp -implicitDefEqProofs [x563L2, hlt, hcell, c1, c2]
    rw [if_neg (by omega)] at hx
    have c2' : l[i] < N := by omega
    have c1' : 0 ≤ l[i] := by omega
    have hin2 := hin (⟨0, [(1, int64 at'), (2, .imm (.slice row2 off2 slots.length cap2)), (3, .optr 0 0), (9, .imm (.slice row off l.length cap)), (10, .osl 1 0 2 N.toNat (some N.toNat)), (11, int64 (i : Nat)), (12, .imm (.val (.int .i64 0)))], [.rich [int64 N, .imm ev, .imm cv, .imm xv], .flat (tVal.row cur) false]⟩ : St) (by simp -implicitDefEqProofs)
    obtain ⟨e, s2, h1, _, ⟨rfl, c3, rfl⟩ | ⟨rfl, c3, rfl⟩⟩ := hin2
    · rw [if_neg c3] at hx
      have hset := setAll_flat (t := tVal) (xs := cur) (by simp [tVal]) (i := l[i].toNat) (by omega) slots[i]
      have hle : l[i].toNat * 2 + 2 ≤ (tVal.row cur).length := by
        rw [row_len]; simp only [tVal]; omega
      have hset' : setAll (tVal.row cur) (l[i].toNat * 2) [.val (.int .u8 slots[i].k), .val (.int .i64 slots[i].n)] = tVal.row (cur.set l[i].toNat slots[i]) := hset
      have hmax : max N 0 = N := by omega
      refine ⟨.normal, ⟨0, [(1, int64 at'), (2, .imm (.slice row2 off2 slots.length cap2)), (3, .optr 0 0), (9, .imm (.slice row off l.length cap)), (10, .osl 1 0 2 N.toNat (some N.toNat)), (11, int64 ((i : Int) + 1))], [.rich [int64 N, .imm ev, .imm cv, .imm xv], .flat (tVal.row (cur.set l[i].toNat slots[i])) false]⟩, ?_, .inl ⟨rfl, n - 1, by omega, i + 1, cur.set l[i].toNat slots[i], by omega, by rw [List.length_set]; exact hcl, ?_, ?_⟩⟩
      · simp -implicitDefEqProofs [x563L2, hlt, hlt', hcell, c1, c2, c1', c2', hget2, e1, hle, hset', hN, hmax]
        rw [h1]
        simp -implicitDefEqProofs [hlt, hlt', hcell, c1, c2, c1', c2', hget2, e1, hle, hset', hN, hmax]
      · rw [hx, htk]
      · simp -implicitDefEqProofs
    · rw [if_pos c3] at hx
      refine ⟨.ret, ⟨0, [(6, .imm (.val (.slice none 0 0))), (7, int64 0), (8, int64 1)], [.rich [int64 N, .imm ev, .imm cv, .imm xv], .flat (tVal.row cur) false]⟩, ?_, .inr ⟨by simp, .inr ⟨rfl, hx, rfl, rfl⟩⟩⟩
      simp -implicitDefEqProofs [x563L2, hlt, hcell, c1, c2]
      rw [h1]
  · have : i = l.length := by omega
    subst this
    refine ⟨.exit 0, ⟨0, [(1, int64 at'), (2, .imm sv), (3, .optr 0 0), (9, .imm lv), (10, .osl 1 0 2 N.toNat (some N.toNat)), (11, int64 l.length), (56, avb false)], [.rich [int64 N, .imm ev, .imm cv, .imm xv], .flat (tVal.row cur) false]⟩, ?_, .inr ⟨by simp, .inl ⟨rfl, cur, ?_, hcl, rfl⟩⟩⟩
    · have hll := reads_len hl
      simp -implicitDefEqProofs [x563L2, hll]
    · rw [hx, List.drop_eq_nil_of_le (by rw [List.length_zip]; omega)]; rfl

theorem refEnter_spec (h : code 563 = some x563) (N at' : Int) {ev sv : IV} (xv yv : IV) {entries : List Entry} {slots : List Val} (hE : Reads tEntry ev entries) (hS : Reads tVal sv slots) :
    callW code ext 563 [.agg [int64 N, .imm ev, .imm xv, .imm yv], int64 at', .imm sv] [] = enterOut (enterOf N entries at' slots) := by
  rw [callW_fun code ext h]
  have hel := reads_len hE
  have hsl := reads_len hS
  by_cases c1 : at' < 0
  · simp -implicitDefEqProofs [x563, enterOf, enterOut, c1]
  by_cases c2 : (entries.length : Int) ≤ at'
  · simp -implicitDefEqProofs [x563, enterOf, enterOut, c1, c2, hel]
  by_cases c3 : N < 0
  · simp -implicitDefEqProofs [x563, enterOf, enterOut, c1, c2, c3, hel]
  by_cases c4 : 4096 < N
  · simp -implicitDefEqProofs [x563, enterOf, enterOut, c1, c2, c3, c4, hel]
  have hat : at'.toNat < entries.length := by omega
  obtain ⟨row, off, cap, rfl, hc, hcut, hget⟩ := reads_pos hE (List.getElem?_eq_getElem hat)
  generalize he : entries[at'.toNat] = e at hget
  simp only [tEntry] at hget
  have g1 : row[off + at'.toNat * 3 + 1]? = some (.val (.int .i64 e.at')) := cut_get hget 1 (by omega)
  have g2 : row[off + at'.toNat * 3 + 2]? = some e.slots.iv := cut_get hget 2 (by omega)
  have hl := e.slots.ok
  have hll := reads_len hl
  have c2' : at' < entries.length := by omega
  have c1' : 0 ≤ at' := by omega
  by_cases c5 : e.slots.xs.length = slots.length
  · have hz : copies N.toNat [IV.val (.int .u8 0), IV.val (.int .i64 0)] = tVal.row (List.replicate N.toNat zVal) := copies_flat (t := tVal) N.toNat zVal
    have e4 : 16 * N ≤ 281474976710656 := by omega
    have e5 : N ≤ 9223372036854775807 := by omega
    have e6 : 0 ≤ N := by omega
    have hsome : enterOf N entries at' slots = (enterGo [] (e.slots.xs.zip slots) (List.replicate N.toNat zVal)).map fun vs => (vs, e.at') := by simp [enterOf, c1, c2, c3, c4, hat, he, c5]
    rw [hsome]
    obtain ⟨ex, s', h3, _, h4⟩ := refEnter_loop (code := code) (ext := ext) at' N (.slice row off entries.length cap) xv yv e.slots.iv sv e.slots.xs slots hl hS c5 e6 (zs := List.replicate N.toNat zVal) (by simp)
      (s := ⟨0, [(1, int64 at'), (2, .imm sv), (3, .optr 0 0), (9, .imm e.slots.iv), (10, .osl 1 0 2 N.toNat (some N.toNat)), (11, .imm (.val (.int .i64 0)))],
      [.rich [int64 N, .imm (.slice row off entries.length cap), .imm xv, .imm yv], .flat (tVal.row (List.replicate N.toNat zVal)) false]⟩) (by simp -implicitDefEqProofs)
    have c5' : (e.slots.xs.length : Int) = slots.length := by omega
    simp -implicitDefEqProofs [x563, c1, c2, c3, c4, g2, hll, hsl, c1', c2', c5', e4, e5, e6, hz, h3]
    rcases h4 with ⟨rfl, vs, h5, h6, rfl⟩ | ⟨rfl, h5, h6, h7⟩
    · simp -implicitDefEqProofs [h5, g1, c1', c2', enterOut, h6]
    · simp -implicitDefEqProofs [h5, enterOut, h6, h7]
  · have c5' : ¬ ((e.slots.xs.length : Int) = slots.length) := by omega
    have hnone : enterOf N entries at' slots = none := by simp [enterOf, c1, c2, c3, c4, hat, he, c5]
    rw [hnone]
    simp -implicitDefEqProofs [x563, enterOut, c1, c2, c3, c4, g2, hll, hsl, c1', c2', c5']

end
end Go.EX
