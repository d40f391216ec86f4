import Derived.Test.YtfmpeoickjggiaaGreatDoorV9j
import Derived.Test.YtfmpeoickjggiaaGreatDoorK3
import Derived.Test.YtfmpeoickjggiaaGreatDoorV9t
set_option linter.unusedVariables false
set_option linter.unusedSimpArgs false
namespace Go.EX
theorem reach_flat (m : Mem) : ∀ (todo : List Nat) (fuel : Nat) (acc : List Nat), todo.length ≤ fuel → (∀ t ∈ todo, t < m.length ∧ ((m[t]?).getD .dead).refs = [] ∧ t ∉ acc) → todo.Nodup → reach m fuel todo acc = acc ++ todo
  | [], fuel, acc, _, _, _ => by cases fuel <;> simp [reach]
  | t :: r, 0, acc, h, _, _ => by simp at h
  | t :: r, fuel + 1, acc, h, h1, h2 => by
    obtain ⟨a, b, c⟩ := h1 t (List.mem_cons_self ..)
    rw [List.nodup_cons] at h2
    rw [reach, if_neg c, if_pos a, b, List.append_nil, reach_flat m r fuel (acc ++ [t]) (by simpa using h) (fun x hx => ?_) h2.2]
    · simp
    · obtain ⟨d, e, f⟩ := h1 x (List.mem_cons_of_mem _ hx)
      refine ⟨d, e, fun hm => ?_⟩
      rw [List.mem_append, List.mem_singleton] at hm
      rcases hm with hm | rfl
      · exact f hm
      · exact h2.1 hx
theorem place_range {n id : Nat} (h : id < n) : place (List.range n) id = some id :=
  place_of _ _ _ List.nodup_range (by simp [h])
structure Rows1 (o : AObj) (los : List AObj) : Prop where
  refs : o.refs = (List.range los.length).map (· + 1)
  flat : ∀ l ∈ los, ∃ cs mv, l = .flat cs mv
theorem rows_reach {o : AObj} {los junk : List AObj} (h : Rows1 o los) (hl : los.length ≤ 10000000) : order 0 [0] (o :: (los ++ junk)) = List.range (los.length + 1) := by
  have h1 : List.range (los.length + 1) = 0 :: (List.range los.length).map (· + 1) := by
    rw [List.range_succ_eq_map]
  unfold order
  rw [h1]
  simp only [List.take_zero, Mem.refs, List.append_nil, List.range_zero]
  rw [show (1000000000000 : Nat) = 999999999999 + 1 from rfl, reach]
  simp only [List.not_mem_nil, if_false, List.length_cons, Nat.zero_lt_succ, if_true, List.getElem?_cons_zero, Option.getD_some, h.refs, List.nil_append]
  rw [reach_flat]
  · rfl
  · simp; omega
  · intro t ht
    simp only [List.mem_map, List.mem_range] at ht
    obtain ⟨i, hi, rfl⟩ := ht
    refine ⟨by simp; omega, ?_, by simp⟩
    rw [List.getElem?_cons_succ, List.getElem?_append_left hi, List.getElem?_eq_getElem hi]
    obtain ⟨cs, mv, e⟩ := h.flat _ (List.getElem_mem hi)
    rw [Option.getD_some, e]; rfl
  · refine (List.pairwise_map.2 ?_)
    exact List.nodup_range.imp fun h e => h (by omega)
theorem rows_pick {o : AObj} {los junk : List AObj} (h : Rows1 o los) : Mem.pickAll (o :: (los ++ junk)) (List.range (los.length + 1)) = o :: los := by
  have hp : ∀ id, id < los.length + 1 → place (List.range (los.length + 1)) id = some id := fun id hid => place_range hid
  unfold Mem.pickAll
  rw [List.range_succ_eq_map, List.map_cons, ← List.range_succ_eq_map]
  simp only [List.getElem?_cons_zero, Option.getD_some, List.map_map]
  congr 1
  · refine obj_ren_id fun id hid => hp id ?_
    rw [h.refs] at hid
    simp only [List.mem_map, List.mem_range] at hid
    obtain ⟨i, hi, rfl⟩ := hid
    omega
  · refine List.ext_getElem (by simp) fun j h1 h2 => ?_
    simp only [List.getElem_map, List.getElem_range, Function.comp, List.getElem?_cons_succ]
    rw [List.getElem?_append_left h2, List.getElem?_eq_getElem h2, Option.getD_some]
    obtain ⟨cs, mv, e⟩ := h.flat _ (List.getElem_mem h2)
    rw [e]; rfl
theorem tidy_rows {o : AObj} {los junk : List AObj} (h : Rows1 o los) (hl : los.length ≤ 10000000) (e : Env) (keep : List Nat) (hr : (e.keep keep).roots = [0]) (hren : ∀ f : Nat → Option Nat, f 0 = some 0 → (e.keep keep).ren f = e.keep keep) :
    St.tidy ⟨0, e, o :: (los ++ junk)⟩ keep = ⟨0, e.keep keep, o :: los⟩ := by
  unfold St.tidy
  simp only [List.length_cons]
  rw [if_neg (by omega), hr, rows_reach h hl, rows_pick h, hren _ (place_range (by omega))]
theorem leave_rows {o : AObj} {los junk : List AObj} (h : Rows1 o los) (hl : los.length ≤ 10000000) : order 0 [0] (o :: (los ++ junk)) = List.range (los.length + 1) ∧ Mem.pickAll (o :: (los ++ junk)) (List.range (los.length + 1)) = o :: los :=
  ⟨rows_reach h hl, rows_pick h⟩
def zCap : Cap := ⟨false, 0⟩
def sCap : Cap := ⟨false, 7777⟩
def zConst : Const := ⟨0, 0, .empty⟩
def sConst : Const := ⟨0, 0, ⟨#[115, 112, 97, 114, 101]⟩⟩
def zIns : Ins := ⟨0, 0⟩
def sIns : Ins := ⟨0, 7777⟩
def zHand : Handler := ⟨0, 0, 0, 0⟩
def sHand : Handler := ⟨0, 0, 7777, 0⟩
theorem twin363 {iv : IV} {xs : List Cap} (hr : Reads tCap iv xs) (hb : xs.length ≤ 1048576) : run9 363 [.imm iv] [] = some (.osl 0 0 2 xs.length (some (xs.length + 1)), [.flat (tCap.row (xs ++ [sCap])) false]) :=
  twin_spec tCap zCap sCap 16 [.bool false, .int .i64 0] (by decide) rfl (by simp [Value.oneCell']) 1 (.int .i64 7777) (by decide) rfl (rfl : code9 363 = some (twinF 2 16 [.bool false, .int .i64 0] 1 (.int .i64 7777))) hr (by omega) (by omega)
theorem twin364 {iv : IV} {xs : List Const} (hr : Reads tConst iv xs) (hb : xs.length ≤ 1048576) : run9 364 [.imm iv] [] = some (.osl 0 0 3 xs.length (some (xs.length + 1)), [.flat (tConst.row (xs ++ [sConst])) false]) :=
  twin_spec tConst zConst sConst 32 [.int .u8 0, .int .i64 0, .string .empty] (by decide) rfl (by simp [Value.oneCell']) 2 (.string ⟨#[115, 112, 97, 114, 101]⟩) (by decide) rfl (rfl : code9 364 = some (twinF 3 32 [.int .u8 0, .int .i64 0, .string .empty] 2 (.string ⟨#[115, 112, 97, 114, 101]⟩))) hr (by omega) (by omega)
theorem twin370 {iv : IV} {xs : List Ins} (hr : Reads tIns iv xs) (hb : xs.length ≤ 1048576) : run9 370 [.imm iv] [] = some (.osl 0 0 2 xs.length (some (xs.length + 1)), [.flat (tIns.row (xs ++ [sIns])) false]) :=
  twin_spec tIns zIns sIns 16 [.int .u8 0, .int .i64 0] (by decide) rfl (by simp [Value.oneCell']) 1 (.int .i64 7777) (by decide) rfl (rfl : code9 370 = some (twinF 2 16 [.int .u8 0, .int .i64 0] 1 (.int .i64 7777))) hr (by omega) (by omega)
theorem twin369 {iv : IV} {xs : List Handler} (hr : Reads tHandler iv xs) (hb : xs.length ≤ 1048576) : run9 369 [.imm iv] [] = some (.osl 0 0 4 xs.length (some (xs.length + 1)), [.flat (tHandler.row (xs ++ [sHand])) false]) :=
  twin_spec tHandler zHand sHand 32 [.int .i64 0, .int .i64 0, .int .i64 0, .int .i64 0] (by decide) rfl (by simp [Value.oneCell']) 2 (.int .i64 7777) (by decide) rfl (rfl : code9 369 = some (twinF 4 32 [.int .i64 0, .int .i64 0, .int .i64 0, .int .i64 0] 2 (.int .i64 7777))) hr (by omega) (by omega)
theorem twin371 {iv : IV} {xs : List Int} (hr : Reads (tInt .i64) iv xs) (hb : xs.length ≤ 1048576) : run9 371 [.imm iv] [] = some (.osl 0 0 1 xs.length (some (xs.length + 1)), [.flat (rowI (xs ++ [7777])) false]) := by
  have hlen := reads_len hr
  have loop : ∃ e s', den code9 (extInsert 766) (.loop [0, 3, 4] x371L1) ⟨0, [(0, .imm iv), (3, .osl 0 0 1 0 (some (xs.length + 1))), (4, int64 0)], [.flat (copies (xs.length + 1) [IV.val (.int .i64 0)]) false]⟩ = some (e, s') ∧ e ≠ .normal ∧
      (e = .exit 0 ∧ s' = ⟨0, [(0, .imm iv), (3, .osl 0 0 1 xs.length (some (xs.length + 1))), (4, int64 xs.length), (12, avb false)], [.flat (rowI (xs ++ [0])) false]⟩) := by
    have hz : copies (xs.length + 1) [IV.val (.int .i64 0)] = rowI (List.replicate (xs.length + 1) 0) := copies_flat (t := tInt .i64) _ 0
    rw [hz]
    refine loop_rule (fun n s => ∃ i, i + n = xs.length ∧ s.tidy [0, 3, 4] = ⟨0, [(0, .imm iv), (3, .osl 0 0 1 i (some (xs.length + 1))), (4, int64 (i : Nat))], [.flat (rowI (xs.take i ++ List.replicate (n + 1) 0)) false]⟩) _ ?_ xs.length _ ⟨0, by simp, by simp -implicitDefEqProofs []⟩
    rintro n s ⟨i, hi, hst⟩
    rw [hst]
    by_cases hlt : i < xs.length
    · obtain ⟨row, off, cap, rfl, hc, hcut, hget⟩ := reads_pos hr (List.getElem?_eq_getElem hlt)
      have e1 : IntKind.wrap .i64 ((i : Int) + 1) = (i : Int) + 1 := wrapI64 (by omega) (by omega)
      obtain ⟨m, rfl⟩ : ∃ m, n = m + 1 := ⟨n - 1, by omega⟩
      have hlt' : (i : Int) < xs.length := by omega
      have htk : xs.take (i + 1) = xs.take i ++ [xs[i]] := by rw [List.take_add_one, List.getElem?_eq_getElem hlt]; rfl
      generalize xs[i] = x at hget htk
      simp only [tInt, Nat.mul_one] at hget
      replace hget := cut_one hget
      have hti : (xs.take i).length = i := by rw [List.length_take]; omega
      have hset : (rowI (xs.take i ++ List.replicate (m + 1 + 1) 0)).set i (.val (.int .i64 x)) = rowI (xs.take (i + 1) ++ List.replicate (m + 1) 0) := by
        rw [rowI_set]
        congr 1
        rw [List.set_append_right _ _ (by omega), hti, Nat.sub_self, htk]
        simp [List.replicate_succ]
      have hrl : (rowI (xs.take i ++ List.replicate (m + 1 + 1) 0)).length = i + (m + 2) := by rw [rowI_len]; simp; omega
      have hfit : i + 1 ≤ (rowI (xs.take i ++ List.replicate (m + 1 + 1) 0)).length := by omega
      refine ⟨.normal, ⟨0, [(0, .imm (.slice row off xs.length cap)), (3, .osl 0 0 1 (i + 1) (some (xs.length + 1))), (4, int64 ((i : Int) + 1))], [.flat (rowI (xs.take (i + 1) ++ List.replicate (m + 1) 0)) false, .flat [.val (.int .i64 x)] false]⟩, ?_, .inl ⟨rfl, m, by omega, i + 1, by omega, ?_⟩⟩
      · simp -implicitDefEqProofs [x371L1, hlt', hlt, hget, e1, exAppendX, exAppend, elems, hset, setAll, hfit, show i + 1 ≤ xs.length + 1 by omega]
      · simp -implicitDefEqProofs []
    · have : i = xs.length := by omega
      subst this
      have : n = 0 := by omega
      subst this
      refine ⟨.exit 0, ⟨0, [(0, .imm iv), (3, .osl 0 0 1 xs.length (some (xs.length + 1))), (4, int64 xs.length), (12, avb false)], [.flat (rowI (xs ++ [0])) false]⟩, ?_, .inr ⟨by simp, rfl, rfl⟩⟩
      simp -implicitDefEqProofs [x371L1, hlen]
  obtain ⟨e, s', h1, _, rfl, rfl⟩ := loop
  have e1 : IntKind.wrap .i64 ((xs.length : Int) + 1) = (xs.length : Int) + 1 := wrapI64 (by omega) (by omega)
  have e2 : (0 : Int) ≤ (xs.length : Int) + 1 := by omega
  have e3 : (8 : Int) * ((xs.length : Int) + 1) ≤ 281474976710656 := by omega
  have e4 : (xs.length : Int) + 1 ≤ 9223372036854775807 := by omega
  have e6 : (xs.length : Int) ≤ (xs.length : Int) + 1 := by omega
  have e5 : ((xs.length : Int) + 1).toNat = xs.length + 1 := by omega
  have hset : (rowI (xs ++ [0])).set xs.length (.val (.int .i64 7777)) = rowI (xs ++ [7777]) := by
    rw [rowI_set]; congr 1
    rw [List.set_append_right _ _ (Nat.le_refl _)]; simp
  have hrl : (rowI (xs ++ [0])).length = xs.length + 1 := by rw [rowI_len]; simp
  unfold run9
  rw [callW_fun code9 (extInsert 766) (rfl : code9 371 = some x371)]
  simp -implicitDefEqProofs [x371, hlen, e1, e2, e3, e4, e5, e6, h1, exAppendX, exAppend, elems, setAll, hset, hrl, exSlice]
def twCells (j : Nat) (f : Fn) : List AV := [.imm (.val (.string f.name)), int64 f.params, int64 f.locals, .imm (.slice (tCap.row (f.caps.xs ++ [sCap])) 0 f.caps.xs.length (some (f.caps.xs.length + 1))), .imm (.slice (tConst.row (f.consts.xs ++ [sConst])) 0 f.consts.xs.length (some (f.consts.xs.length + 1))),
  .imm (.slice (tIns.row (f.code.xs ++ [sIns])) 0 f.code.xs.length (some (f.code.xs.length + 1))), .osl j 0 1 f.lines.xs.length (some (f.lines.xs.length + 1)), .imm (.slice (tHandler.row (f.handlers.xs ++ [sHand])) 0 f.handlers.xs.length (some (f.handlers.xs.length + 1)))]
set_option maxRecDepth 100000 in
theorem twin367 (f : Fn) (hs : Small f) : run9 367 [fnAV f] [] = some (.agg (twCells 0 f), [.flat (rowI (f.lines.xs ++ [7777])) false]) := by
  have h1 := twin363 f.caps.ok hs.caps
  have h2 := twin364 f.consts.ok hs.consts
  have h3 := twin370 f.code.ok hs.code
  have h4 := twin371 f.lines.ok hs.lines
  have h5 := twin369 f.handlers.ok hs.handlers
  unfold run9 at *
  rw [callW_fun code9 (extInsert 766) (rfl : code9 367 = some x367)]
  simp -implicitDefEqProofs [x367, h1, h2, h3, h4, h5, frz_flat, twCells]
end Go.EX

