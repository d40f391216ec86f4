/-
  EX: what the functions of law 23 come to: Enter.
-/
import Derived.Test.YtmghegmjiagkgaaGreatDoorD23c
set_option linter.unusedVariables false
set_option linter.unusedSimpArgs false
namespace Go.EX

section
variable {code : Nat → Option XFun} {ext : Calls'}

/-- Enter's registers: r gets v, unless r is out of them or was there. -/
def enterGo : List Int → List (Int × Val) → List Val → Option (List Val)
  | _, [], regs => some regs
  | seen, (r, v) :: rest, regs => if r < 0 then none else if (regs.length : Int) ≤ r then none else if r ∈ seen then none else enterGo (seen ++ [r]) rest (regs.set r.toNat v)

structure Entry where
  pc : Int
  at' : Int
  slots : Sl (tInt .i64)

def tEntry : Ty Entry := ⟨3, true, fun e => [.val (.int .i64 e.pc), .val (.int .i64 e.at'), e.slots.iv], fun e => (tInt .i64).wf e.pc ∧ (tInt .i64).wf e.at', fun _ => rfl⟩

theorem enter_loop (h : code 753 = some x753) (h' : code 764 = some x764) (at' N : Int) (ev xv yv lv : IV) (l : List Int) (slots : List Val) (hl : Reads (tInt .i64) lv l) (hn : l.length = slots.length) (hN : 0 ≤ N) {zs : List Val} (hz : zs.length = N.toNat) {s : St}
    (hst : s.tidy [1, 3, 9, 10, 11, 60, 61, 62] = ⟨0, [(1, int64 at'), (3, .optr 0 0), (9, .osl 1 0 2 l.length (some l.length)), (10, .imm lv), (11, .osl 2 0 2 N.toNat (some N.toNat)), (60, .imm lv), (61, int64 l.length), (62, int64 0)],
      [.rich [int64 N, .imm ev, .imm xv, .imm yv], .flat (tVal.row slots) false, .flat (tVal.row zs) false]⟩) :
    ∃ e s', den code ext (.loop [1, 3, 9, 10, 11, 60, 61, 62] x287L1) s = some (e, s') ∧ e ≠ .normal ∧
      ((e = .exit 0 ∧ ∃ vs, enterGo [] (l.zip slots) zs = some vs ∧ vs.length = zs.length ∧ s' = ⟨0, [(1, int64 at'), (3, .optr 0 0), (9, .osl 1 0 2 l.length (some l.length)), (10, .imm lv), (11, .osl 2 0 2 N.toNat (some N.toNat)), (60, .imm lv), (61, int64 l.length), (62, int64 l.length), (63, avb false)],
          [.rich [int64 N, .imm ev, .imm xv, .imm yv], .flat (tVal.row slots) false, .flat (tVal.row vs) false]⟩) ∨
       (e = .ret ∧ enterGo [] (l.zip slots) zs = none ∧ s'.k = 0 ∧ s'.env = [(6, .imm (.val (.slice none 0 0))), (7, int64 0), (8, int64 1)])) := by
  refine loop_rule (fun n s => ∃ i cur, i + n = l.length ∧ cur.length = zs.length ∧ enterGo [] (l.zip slots) zs = enterGo (l.take i) ((l.zip slots).drop i) cur ∧
    s.tidy [1, 3, 9, 10, 11, 60, 61, 62] = ⟨0, [(1, int64 at'), (3, .optr 0 0), (9, .osl 1 0 2 l.length (some l.length)), (10, .imm lv), (11, .osl 2 0 2 N.toNat (some N.toNat)), (60, .imm lv), (61, int64 l.length), (62, int64 (i : Nat))],
      [.rich [int64 N, .imm ev, .imm xv, .imm yv], .flat (tVal.row slots) false, .flat (tVal.row cur) false]⟩) _ ?_ l.length _ ⟨0, zs, by simp, rfl, by simp, hst⟩
  clear hst
  rintro n s ⟨i, cur, hi, hcl, hx, hst⟩
  rw [hst]
  by_cases hlt : i < l.length
  · obtain ⟨row, off, cap, rfl, hc, hcut, hget⟩ := reads_pos hl (List.getElem?_eq_getElem hlt)
    have hcell := cut_one (by simpa [tInt] using hget)
    have hb := hl.2.1
    have hlt' : i < slots.length := by omega
    have e1 : IntKind.wrap .i64 ((i : Int) + 1) = (i : Int) + 1 := wrapI64 (by omega) (by omega)
    obtain ⟨pv, hp1, hp2⟩ := exSlice_hi hl (Nat.le_of_lt hlt)
    have hcon := contains_spec (ext := ext) h h' hp2 l[i]
    simp only [tInt] at hp1
    have hzd : (l.zip slots).drop i = (l[i], slots[i]) :: (l.zip slots).drop (i + 1) := by
      rw [List.drop_eq_getElem_cons (by simp; omega)]; simp
    rw [hzd, enterGo] at hx
    have hslot : cut (tVal.row slots) (i * 2) 2 = some [.val (.int .u8 slots[i].k), .val (.int .i64 slots[i].n)] := by
      have := flat_elem (t := tVal) (List.getElem?_eq_getElem hlt')
      exact this
    have htk : l.take (i + 1) = l.take i ++ [l[i]] := by rw [List.take_add_one, List.getElem?_eq_getElem hlt]; rfl
    by_cases c1 : l[i] < 0
    · rw [if_pos c1] at hx
      refine ⟨.ret, ⟨0, [(6, .imm (.val (.slice none 0 0))), (7, int64 0), (8, int64 1)], [.rich [int64 N, .imm ev, .imm xv, .imm yv], .flat (tVal.row slots) false, .flat (tVal.row cur) false]⟩, ?_, .inr ⟨by simp, .inr ⟨rfl, hx, rfl, rfl⟩⟩⟩
      simp -implicitDefEqProofs [x287L1, hlt, hcell, c1]
    rw [if_neg c1] at hx
    by_cases c2 : N ≤ l[i]
    · rw [if_pos (by omega)] at hx
      refine ⟨.ret, ⟨0, [(6, .imm (.val (.slice none 0 0))), (7, int64 0), (8, int64 1)], [.rich [int64 N, .imm ev, .imm xv, .imm yv], .flat (tVal.row slots) false, .flat (tVal.row cur) false]⟩, ?_, .inr ⟨by simp, .inr ⟨rfl, hx, rfl, rfl⟩⟩⟩
      simp -implicitDefEqProofs [x287L1, hlt, hcell, c1, c2]
    rw [if_neg (by omega)] at hx
    have c2' : l[i] < N := by omega
    have c1' : 0 ≤ l[i] := by omega
    by_cases c3 : l[i] ∈ l.take i
    · rw [if_pos c3] at hx
      refine ⟨.ret, ⟨0, [(6, .imm (.val (.slice none 0 0))), (7, int64 0), (8, int64 1)], [.rich [int64 N, .imm ev, .imm xv, .imm yv], .flat (tVal.row slots) false, .flat (tVal.row cur) false]⟩, ?_, .inr ⟨by simp, .inr ⟨rfl, hx, rfl, rfl⟩⟩⟩
      simp -implicitDefEqProofs [x287L1, hlt, hcell, c1, c2, hp1, hcon, c3]
    · rw [if_neg c3] at hx
      have hset := setAll_flat (t := tVal) (xs := cur) (by simp [tVal]) (i := l[i].toNat) (by omega) slots[i]
      have hle : l[i].toNat * 2 + 2 ≤ (tVal.row cur).length := by
        rw [row_len]; simp only [tVal]; omega
      have hset' : setAll (tVal.row cur) (l[i].toNat * 2) [.val (.int .u8 slots[i].k), .val (.int .i64 slots[i].n)] = tVal.row (cur.set l[i].toNat slots[i]) := hset
      refine ⟨.normal, ⟨0, [(1, int64 at'), (3, .optr 0 0), (9, .osl 1 0 2 l.length (some l.length)), (10, .imm (.slice row off l.length cap)), (11, .osl 2 0 2 N.toNat (some N.toNat)), (60, .imm (.slice row off l.length cap)), (61, int64 l.length), (62, int64 ((i : Int) + 1))],
      [.rich [int64 N, .imm ev, .imm xv, .imm yv], .flat (tVal.row slots) false, .flat (tVal.row (cur.set l[i].toNat slots[i])) false]⟩, ?_, .inl ⟨rfl, n - 1, by omega, i + 1, cur.set l[i].toNat slots[i], by omega, by rw [List.length_set]; exact hcl, ?_, ?_⟩⟩
      · skip
        have hmax : max N 0 = N := by omega
        simp -implicitDefEqProofs [x287L1, hlt, hcell, c1, c2, c1', c2', hp1, hcon, c3, hslot, e1, hle, hset', hN, hmax]
      · rw [hx, htk]
      · simp -implicitDefEqProofs
  · have : i = l.length := by omega
    subst this
    refine ⟨.exit 0, ⟨0, [(1, int64 at'), (3, .optr 0 0), (9, .osl 1 0 2 l.length (some l.length)), (10, .imm lv), (11, .osl 2 0 2 N.toNat (some N.toNat)), (60, .imm lv), (61, int64 l.length), (62, int64 l.length), (63, avb false)],
          [.rich [int64 N, .imm ev, .imm xv, .imm yv], .flat (tVal.row slots) false, .flat (tVal.row cur) false]⟩, ?_, .inr ⟨by simp, .inl ⟨rfl, cur, ?_, hcl, rfl⟩⟩⟩
    · simp -implicitDefEqProofs [x287L1]
    · rw [hx, List.drop_eq_nil_of_le (by rw [List.length_zip]; omega)]; rfl

/-- What Enter asks ahead of all. -/
def enterOf (N : Int) (entries : List Entry) (at' : Int) (slots : List Val) : Option (List Val × Int) :=
  if at' < 0 then none else if (entries.length : Int) ≤ at' then none else if N < 0 then none else if 4096 < N then none else
  match entries[at'.toNat]? with
  | none => none
  | some e => if e.slots.xs.length ≠ slots.length then none else
    (enterGo [] (e.slots.xs.zip slots) (List.replicate N.toNat zVal)).map fun vs => (vs, e.at')

def enterOut : Option (List Val × Int) → Option (AV × Mem)
  | some (vs, a) => some (.tup [.osl 0 0 2 vs.length (some vs.length), int64 a, int64 0], [.flat (tVal.row vs) false])
  | none => some (.tup [.imm (.val (.slice none 0 0)), int64 0, int64 1], [])

theorem enter_spec (h : code 753 = some x753) (h' : code 764 = some x764) (h2 : code 287 = some x287) (N at' : Int) {ev sv : IV} (xv yv : IV) {entries : List Entry} {slots : List Val} (hE : Reads tEntry ev entries) (hS : Reads tVal sv slots) (hb : slots.length ≤ 17592186044416) :
    callW code ext 287 [.agg [int64 N, .imm ev, .imm xv, .imm yv], int64 at', .imm sv] [] = enterOut (enterOf N entries at' slots) := by
  rw [callW_fun code ext h2]
  have hel := reads_len hE
  have hsl := reads_len hS
  by_cases c1 : at' < 0
  · simp -implicitDefEqProofs [x287, enterOf, enterOut, c1]
  by_cases c2 : (entries.length : Int) ≤ at'
  · simp -implicitDefEqProofs [x287, enterOf, enterOut, c1, c2, hel]
  by_cases c3 : N < 0
  · simp -implicitDefEqProofs [x287, enterOf, enterOut, c1, c2, c3, hel]
  by_cases c4 : 4096 < N
  · simp -implicitDefEqProofs [x287, enterOf, enterOut, c1, c2, c3, c4, hel]
  have hat : at'.toNat < entries.length := by omega
  obtain ⟨row, off, cap, rfl, hc, hcut, hget⟩ := reads_pos hE (List.getElem?_eq_getElem hat)
  generalize he : entries[at'.toNat] = e at hget
  have hq : entries[at'.toNat]? = some e := by rw [← he]; exact List.getElem?_eq_getElem hat
  simp only [tEntry] at hget
  have g1 : row[off + at'.toNat * 3 + 1]? = some (.val (.int .i64 e.at')) := cut_get hget 1 (by omega)
  have g2 : row[off + at'.toNat * 3 + 2]? = some e.slots.iv := cut_get hget 2 (by omega)
  have hl := e.slots.ok
  have hll := reads_len hl
  have c2' : at' < entries.length := by omega
  have c1' : 0 ≤ at' := by omega
  by_cases c5 : e.slots.xs.length = slots.length
  · have hz : copies N.toNat [IV.val (.int .u8 0), IV.val (.int .i64 0)] = tVal.row (List.replicate N.toNat zVal) := copies_flat (t := tVal) N.toNat zVal
    have hz2 : copies slots.length [IV.val (.int .u8 0), IV.val (.int .i64 0)] = tVal.row (List.replicate slots.length zVal) := copies_flat (t := tVal) slots.length zVal
    have e2 : (16 : Int) * slots.length ≤ 281474976710656 := by omega
    have e3 : (slots.length : Int) ≤ 9223372036854775807 := by omega
    have e4 : 16 * N ≤ 281474976710656 := by omega
    have e5 : N ≤ 9223372036854775807 := by omega
    have e6 : 0 ≤ N := by omega
    have hcp := elems_reads [.rich [int64 N, .imm (.slice row off entries.length cap), .imm xv, .imm yv], .flat (tVal.row (List.replicate slots.length zVal)) false] hS
    have hsh := shorten_reads hS
    have hw : setAll (tVal.row (List.replicate slots.length zVal)) 0 (tVal.row slots) = tVal.row slots := setAll_whole _ _ (by rw [row_len, row_len]; simp)
    have hcl : (tVal.row slots).length ≤ (tVal.row (List.replicate slots.length zVal)).length := by rw [row_len, row_len]; simp
    have hsome : enterOf N entries at' slots = (enterGo [] (e.slots.xs.zip slots) (List.replicate N.toNat zVal)).map fun vs => (vs, e.at') := by simp [enterOf, c1, c2, c3, c4, hat, he, c5]
    rw [hsome]
    obtain ⟨ex, s', h3, _, h4⟩ := enter_loop (ext := ext) h h' at' N (.slice row off entries.length cap) xv yv e.slots.iv e.slots.xs slots hl c5 e6 (zs := List.replicate N.toNat zVal) (by simp)
      (s := ⟨0, [(1, int64 at'), (3, .optr 0 0), (9, .osl 1 0 2 slots.length (some slots.length)), (10, .imm e.slots.iv), (11, .osl 2 0 2 N.toNat (some N.toNat)), (60, .imm e.slots.iv), (61, int64 slots.length), (62, int64 0)],
      [.rich [int64 N, .imm (.slice row off entries.length cap), .imm xv, .imm yv], .flat (tVal.row slots) false, .flat (tVal.row (List.replicate N.toNat zVal)) false]⟩) (by simp -implicitDefEqProofs [c5])
    have hcp' := hcp
    rw [show tVal.sz = 2 from rfl] at hcp'
    by_cases hnil : slots = []
    · subst hnil
      have hr0 : tVal.row [] = [] := rfl
      simp only [List.length_nil] at c5 hsl h3 hz2
      rw [hr0, show ((0 : Nat) : Int) = 0 from rfl] at h3
      simp -implicitDefEqProofs [x287, c1, c2, c3, c4, g2, hll, hsl, c1', c2', c5, e4, e5, e6, hz, h3, hr0]
      rcases h4 with ⟨rfl, vs, h5, h6, rfl⟩ | ⟨rfl, h5, h6, h7⟩
      · simp at h5
        simp -implicitDefEqProofs [h5, g1, c1', c2', enterOut, h6]
      · simp at h5
        simp -implicitDefEqProofs [h5, enterOut, h6, h7]
    simp -implicitDefEqProofs [x287, c1, c2, c3, c4, g2, hll, hsl, c1', c2', c5, e2, e3, e4, e5, e6, hz, hz2, hcp', hsh, hw, hcl, h3, hnil]
    rcases h4 with ⟨rfl, vs, h5, h6, rfl⟩ | ⟨rfl, h5, h6, h7⟩
    · simp -implicitDefEqProofs [h5, g1, c1', c2', enterOut, h6]
    · simp -implicitDefEqProofs [h5, enterOut, h6, h7]
  · have c5' : ¬ ((e.slots.xs.length : Int) = slots.length) := by omega
    have hnone : enterOf N entries at' slots = none := by simp [enterOf, c1, c2, c3, c4, hat, he, c5]
    rw [hnone]
    simp -implicitDefEqProofs [x287, enterOut, c1, c2, c3, c4, g2, hll, hsl, c1', c2', c5']

end
end Go.EX
