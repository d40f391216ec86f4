/-
  EX: what the functions of law 23 come to.
-/
import Derived.Test.YtmghegmjiagkgaaGreatDoorCD
import Derived.Test.YtmghegmjiagkgaaGreatDoorK3
set_option linter.unusedVariables false
set_option linter.unusedSimpArgs false
namespace Go.EX

section
variable {code : Nat → Option XFun} {ext : Calls'}

/-- slices.Index: from place i on. -/
def indexFrom (x : Int) : Nat → List Int → Int
  | _, [] => -1
  | i, y :: r => if x = y then i else indexFrom x (i + 1) r

theorem index_loop (iv : IV) (xs : List Int) (x : Int) (h : Reads (tInt .i64) iv xs) : ∃ e s', den code ext (.loop [0, 1, 7, 8] x764L1) ⟨0, [(0, .imm iv), (1, int64 x), (7, int64 xs.length), (8, int64 0)], []⟩ = some (e, s') ∧ e ≠ .normal ∧
    ((e = .exit 0 ∧ indexFrom x 0 xs = -1 ∧ s'.k = 0 ∧ s'.mem = []) ∨ (e = .ret ∧ s' = ⟨0, [(4, int64 (indexFrom x 0 xs))], []⟩)) := by
  refine loop_rule (fun n s => ∃ i, i + n = xs.length ∧ s = ⟨0, [(0, .imm iv), (1, int64 x), (7, int64 xs.length), (8, int64 (i : Nat))], []⟩ ∧ indexFrom x 0 xs = indexFrom x i (xs.drop i)) _ ?_ xs.length _ ⟨0, by simp, rfl, by simp⟩
  rintro n _ ⟨i, hi, rfl, hx⟩
  by_cases hlt : i < xs.length
  · obtain ⟨row, off, cap, rfl, hc, hcut, hget⟩ := reads_pos h (List.getElem?_eq_getElem hlt)
    have hcell := cut_one (by simpa [tInt] using hget)
    have hlen := h.2.1
    have e1 : IntKind.wrap .i64 ((i : Int) + 1) = (i : Int) + 1 := wrapI64 (by omega) (by omega)
    rw [List.drop_eq_getElem_cons hlt] at hx
    by_cases he : x = xs[i]
    · refine ⟨.ret, ⟨0, [(4, int64 (indexFrom x 0 xs))], []⟩, ?_, .inr ⟨by simp, .inr ⟨rfl, rfl⟩⟩⟩
      have hx' : indexFrom x 0 xs = (i : Nat) := by rw [hx]; simp [indexFrom, he]
      rw [hx']
      simp [x764L1, hlt, hcell, he]
    · refine ⟨.normal, ⟨0, [(0, .imm (.slice row off xs.length cap)), (1, int64 x), (7, int64 xs.length), (8, int64 ((i + 1 : Nat)))], []⟩, ?_, .inl ⟨rfl, n - 1, by omega, i + 1, by omega, rfl, ?_⟩⟩
      · simp [x764L1, hlt, hcell, he, e1]
      · rw [hx]; simp [indexFrom, he]
  · refine ⟨.exit 0, ⟨0, [(0, .imm iv), (1, int64 x), (7, int64 xs.length), (8, int64 (i : Nat)), (9, avb false)], []⟩, ?_, .inr ⟨by simp, .inl ⟨rfl, ?_, rfl, rfl⟩⟩⟩
    · have : ¬ ((i : Int) < xs.length) := by omega
      simp [x764L1, this]
    · rw [hx, List.drop_eq_nil_of_le (by omega)]; rfl

theorem index_spec (h : code 764 = some x764) {iv : IV} {xs : List Int} (hr : Reads (tInt .i64) iv xs) (x : Int) : callW code ext 764 [.imm iv, int64 x] [] = some (int64 (indexFrom x 0 xs), []) := by
  rw [callW_fun code ext h]
  obtain ⟨e, s', h1, _, h2⟩ := index_loop (code := code) (ext := ext) iv xs x hr
  simp [x764, reads_len hr, h1]
  rcases h2 with ⟨rfl, h2, h3, h4⟩ | ⟨rfl, rfl⟩
  · simp [h2, h3, h4]
  · simp

theorem indexFrom_neg (x : Int) : ∀ (l : List Int) (i : Nat), indexFrom x i l < 0 ↔ x ∉ l
  | [], i => by simp [indexFrom]
  | y :: r, i => by
    simp only [indexFrom]
    split
    · rename_i h; subst h; simp
    · rename_i h; rw [indexFrom_neg x r (i + 1)]; simp [h]

theorem contains_spec (h : code 753 = some x753) (h' : code 764 = some x764) {iv : IV} {xs : List Int} (hr : Reads (tInt .i64) iv xs) (x : Int) : callW code ext 753 [.imm iv, int64 x] [] = some (avb (decide (x ∈ xs)), []) := by
  rw [callW_fun code ext h]
  simp [x753, index_spec h' hr x]
  have := indexFrom_neg x xs 0
  by_cases hm : x ∈ xs
  · simp [hm] at this ⊢; exact this
  · simp [hm] at this ⊢; exact this

theorem sameVals_loop (iv jv : IV) (xs ys : List Val) (h : Reads tVal iv xs) (h' : Reads tVal jv ys) (hl : xs.length = ys.length) : ∃ e s', den code ext (.loop [0, 1, 5] x357L1) ⟨0, [(0, .imm iv), (1, .imm jv), (5, int64 0)], []⟩ = some (e, s') ∧ e ≠ .normal ∧
    ((e = .exit 0 ∧ xs = ys ∧ s'.k = 0 ∧ s'.mem = []) ∨ (e = .ret ∧ xs ≠ ys ∧ s' = ⟨0, [(4, avb false)], []⟩)) := by
  refine loop_rule (fun n s => ∃ i, i + n = xs.length ∧ s = ⟨0, [(0, .imm iv), (1, .imm jv), (5, int64 (i : Nat))], []⟩ ∧ xs.take i = ys.take i) _ ?_ xs.length _ ⟨0, by simp, rfl, by simp⟩
  rintro n _ ⟨i, hi, rfl, hx⟩
  have hlen := reads_len h
  by_cases hlt : i < xs.length
  · obtain ⟨row, off, cap, rfl, hc, hcut, hget⟩ := reads_pos h (List.getElem?_eq_getElem hlt)
    have hlt' : i < ys.length := by omega
    obtain ⟨row', off', cap', rfl, hc', hcut', hget'⟩ := reads_pos h' (List.getElem?_eq_getElem hlt')
    have hb := h.2.1
    have e1 : IntKind.wrap .i64 ((i : Int) + 1) = (i : Int) + 1 := wrapI64 (by omega) (by omega)
    simp only [tVal] at hget hget'
    have hee : (xs[i].k = ys[i].k ∧ xs[i].n = ys[i].n) ↔ xs[i] = ys[i] := by
      cases h1 : xs[i]; cases h2 : ys[i]; simp
    by_cases he : xs[i] = ys[i]
    · refine ⟨.normal, ⟨0, [(0, .imm (.slice row off xs.length cap)), (1, .imm (.slice row' off' ys.length cap')), (5, int64 ((i + 1 : Nat)))], []⟩, ?_, .inl ⟨rfl, n - 1, by omega, i + 1, by omega, rfl, ?_⟩⟩
      · simp [x357L1, hlt, hlt', hget, hget', he, e1]
      · rw [List.take_add_one, List.take_add_one, hx, List.getElem?_eq_getElem hlt, List.getElem?_eq_getElem hlt', he]
    · refine ⟨.ret, ⟨0, [(4, avb false)], []⟩, ?_, .inr ⟨by simp, .inr ⟨rfl, ?_, rfl⟩⟩⟩
      · have : ¬ (xs[i].k = ys[i].k ∧ xs[i].n = ys[i].n) := fun h => he (hee.1 h)
        by_cases hk : xs[i].k = ys[i].k
        · have hn : ¬ xs[i].n = ys[i].n := fun h => this ⟨hk, h⟩
          simp [x357L1, hlt, hlt', hget, hget', hk, hn]
        · simp [x357L1, hlt, hlt', hget, hget', hk]
      · intro h; subst h; exact he rfl
  · refine ⟨.exit 0, ⟨0, [(0, .imm iv), (1, .imm jv), (5, int64 (i : Nat)), (14, avb false)], []⟩, ?_, .inr ⟨by simp, .inl ⟨rfl, ?_, rfl, rfl⟩⟩⟩
    · have : ¬ ((i : Int) < xs.length) := by omega
      simp [x357L1, hlen, this]
    · have : i = xs.length := by omega
      subst this
      rw [List.take_length] at hx
      rw [hx, hl, List.take_length]

theorem sameVals_spec (h : code 357 = some x357) {iv jv : IV} {xs ys : List Val} (hr : Reads tVal iv xs) (hs : Reads tVal jv ys) : callW code ext 357 [.imm iv, .imm jv] [] = some (avb (decide (xs = ys)), []) := by
  rw [callW_fun code ext h]
  by_cases hl : xs.length = ys.length
  · obtain ⟨e, s', h1, _, h2⟩ := sameVals_loop (code := code) (ext := ext) iv jv xs ys hr hs hl
    simp [x357, reads_len hr, reads_len hs, h1, hl]
    rcases h2 with ⟨rfl, h2, h3, h4⟩ | ⟨rfl, h2, rfl⟩
    · simp [h2, h3, h4]
    · simp [h2]
  · have : xs ≠ ys := fun h => hl (by rw [h])
    have hl' : ¬ ((xs.length : Int) = ys.length) := by omega
    simp [x357, reads_len hr, reads_len hs, hl', this]

structure Loc where
  reg : Int
  k : Int
  n : Int

def tLoc : Ty Loc := ⟨3, true, fun v => [.val (.int .i64 v.reg), .val (.int .u8 v.k), .val (.int .i64 v.n)], fun v => (tInt .i64).wf v.reg ∧ (tInt .u8).wf v.k ∧ (tInt .i64).wf v.n, fun _ => rfl⟩

def tellOf (l : Loc) (regs : List Val) : Option Val :=
  if (regs.length : Int) ≤ l.reg then none
  else if 0 ≤ l.reg then regs[l.reg.toNat]?
  else if l.k = 2 then some ⟨l.k, l.n⟩
  else if l.k = 0 then if l.n = 0 then some ⟨l.k, l.n⟩ else none
  else if l.k = 1 then if l.n = 0 then some ⟨l.k, l.n⟩ else if l.n = 1 then some ⟨l.k, l.n⟩ else none
  else none

def tellOut (cs : List IV) (mv : Bool) (o : Nat) : Option Val → Option (AV × Mem)
  | some v => some (avb true, [.flat (setAll cs o (tVal.enc v)) mv])
  | none => some (avb false, [.flat cs mv])

set_option maxHeartbeats 1000000 in
theorem tell_spec (h : code 289 = some x289) (l : Loc) {iv : IV} {xs : List Val} (hr : Reads tVal iv xs) (cs : List IV) (mv : Bool) (o : Nat) (ho : o + 2 ≤ cs.length) :
    callW code ext 289 [.agg [int64 l.reg, .imm (.val (.int .u8 l.k)), int64 l.n], .imm iv, .optr 0 o] [.flat cs mv] = tellOut cs mv o (tellOf l xs) := by
  rw [callW_fun code ext h]
  have hlen := reads_len hr
  by_cases h1 : (xs.length : Int) ≤ l.reg
  · simp -implicitDefEqProofs [x289, tellOf, h1, hlen, tellOut]
  · by_cases h2 : 0 ≤ l.reg
    · have hlt : l.reg.toNat < xs.length := by omega
      obtain ⟨row, off, cap, rfl, hc, hcut, hget⟩ := reads_pos hr (List.getElem?_eq_getElem hlt)
      simp only [tVal] at hget
      have h3 : l.reg < xs.length := by omega
      simp -implicitDefEqProofs [x289, tellOf, h1, h2, h3, tellOut, hget, ho, tVal, hlt]
    · by_cases k2 : l.k = 2
      · simp -implicitDefEqProofs [x289, tellOf, h1, h2, hlen, tellOut, k2, ho, tVal]
      · by_cases k0 : l.k = 0
        · by_cases n0 : l.n = 0
          · simp -implicitDefEqProofs [x289, tellOf, h1, h2, hlen, tellOut, k0, n0, ho, tVal]
          · simp -implicitDefEqProofs [x289, tellOf, h1, h2, hlen, tellOut, k0, n0, ho, tVal]
        · by_cases k1 : l.k = 1
          · by_cases n0 : l.n = 0
            · simp -implicitDefEqProofs [x289, tellOf, h1, h2, hlen, tellOut, k1, n0, ho, tVal]
            · by_cases n1 : l.n = 1
              · simp -implicitDefEqProofs [x289, tellOf, h1, h2, hlen, tellOut, k1, n1, ho, tVal]
              · simp -implicitDefEqProofs [x289, tellOf, h1, h2, hlen, tellOut, k1, n0, n1, ho, tVal]
          · simp -implicitDefEqProofs [x289, tellOf, h1, h2, hlen, tellOut, k2, k0, k1, ho, tVal]

end
end Go.EX
