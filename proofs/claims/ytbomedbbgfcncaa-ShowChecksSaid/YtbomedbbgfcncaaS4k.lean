/-
  EX: law 04: show's words; ShowWords is true.
-/
import Derived.Test.YtbomedbbgfcncaaS4j
set_option linter.unusedVariables false
set_option linter.unusedSimpArgs false
namespace Go.EX

section
variable {code : Nat → Option XFun} {ext : Calls'}

theorem words_spec (h : code 657 = some x657) (T : List Obj) (k : Nat) (o : Obj) (ho : T[k]? = some o) (hroom : o.room ≤ 1099511627776) (hs : o.s.size ≤ 1048576) (hL : o.l.xs.length ≤ 5000) :
    callW code ext 657 [.optr 0 (k * 5)] [.flat (storeRow T) false] = some (int64 (wordsOf o : Nat), [.flat (storeRow T) false]) := by
  rw [callW_fun code ext h]
  have hget := storeRow_get ho
  have g0 : (storeRow T)[k * 5]? = some (.val (.int .u8 o.k)) := cut_get hget 0 (by omega)
  have g1 : (storeRow T)[k * 5 + 1]? = some (.val (.string o.s)) := cut_get hget 1 (by omega)
  have g2 : (storeRow T)[k * 5 + 2]? = some o.l.iv := cut_get hget 2 (by omega)
  have g3 : (storeRow T)[k * 5 + 3]? = some (.val (.int .i64 o.room)) := cut_get hget 3 (by omega)
  by_cases c3 : o.k = 3
  · have hw : wordsOf o = 2 + (o.s.size + 7) / 8 := by simp [wordsOf, c3]
    have w2 : IntKind.wrap .i64 ((o.s.size : Int) + 7) = (o.s.size : Int) + 7 := wrapI64 (by omega) (by omega)
    have w3 : IntKind.wrap .i64 ((((o.s.size + 7) / 8 : Nat) : Int)) = (((o.s.size + 7) / 8 : Nat) : Int) := wrapI64 (by omega) (by omega)
    have w4 : IntKind.wrap .i64 (2 + (((o.s.size + 7) / 8 : Nat) : Int)) = 2 + (((o.s.size + 7) / 8 : Nat) : Int) := wrapI64 (by omega) (by omega)
    have hd := tdiv8 o.s.size
    generalize hqq : (o.s.size + 7) / 8 = q at *
    rw [hw]
    simp -implicitDefEqProofs [x657, g0, g1, c3, w2, w3, w4, hd]
  by_cases c45 : o.k = 4 ∨ o.k = 5
  · by_cases c0 : 0 < o.room
    · have hw : wordsOf o = 4 + 2 * o.room.toNat := by simp [wordsOf, c3, c45, c0]
      obtain ⟨r, hr⟩ : ∃ r : Nat, o.room = r := ⟨o.room.toNat, by omega⟩
      have hr2 : o.room.toNat = r := by omega
      have w3 : IntKind.wrap .i64 (2 * (r : Int)) = 2 * r := wrapI64 (by omega) (by omega)
      have w4 : IntKind.wrap .i64 (4 + 2 * (r : Int)) = 4 + 2 * r := wrapI64 (by omega) (by omega)
      have hr0 : 0 < r := by omega
      rw [hw, hr2]
      rw [hr] at g3
      rcases c45 with c4 | c5
      · simp -implicitDefEqProofs [x657, g0, g3, c4, w3, w4, hr0]
      · simp -implicitDefEqProofs [x657, g0, g3, c5, w3, w4, hr0]
    · have hw : wordsOf o = 3 := by simp [wordsOf, c3, c45, c0]
      rw [hw]
      rcases c45 with c4 | c5
      · simp -implicitDefEqProofs [x657, g0, g3, c4, c0]
      · simp -implicitDefEqProofs [x657, g0, g3, c5, c0]
  · have c4 : ¬ o.k = 4 := fun e => c45 (.inl e)
    have c5 : ¬ o.k = 5 := fun e => c45 (.inr e)
    by_cases c6 : o.k = 6
    · have hw : wordsOf o = 2 + 2 * o.l.xs.length := by simp [wordsOf, c6]
      have hll := reads_len o.l.ok
      have w2 : IntKind.wrap .i64 (2 * (o.l.xs.length : Int)) = 2 * (o.l.xs.length : Int) := wrapI64 (by omega) (by omega)
      have w3 : IntKind.wrap .i64 (2 + 2 * (o.l.xs.length : Int)) = 2 + 2 * (o.l.xs.length : Int) := wrapI64 (by omega) (by omega)
      rw [hw]
      simp -implicitDefEqProofs [x657, g0, g2, c6, w2, w3, hll]
    · have hw : wordsOf o = 3 := by simp [wordsOf, c3, c4, c5, c6]
      rw [hw]
      simp -implicitDefEqProofs [x657, g0, c3, c4, c5, c6]

theorem wordsOf_le (o : Obj) (hroom : o.room ≤ 1099511627776) (hs : o.s.size ≤ 1048576) (hL : o.l.xs.length ≤ 5000) : wordsOf o ≤ 3000000000000 := by
  unfold wordsOf; split; omega; split; split <;> omega; split <;> omega

theorem showWords_spec (h : code 651 = some x651) (h' : code 655 = some x655) (h2 : code 654 = some x654) (h3 : code 657 = some x657) (h4 : code 649 = some x649) (T : List Obj) (hb : T.length ≤ 1048576) {rv : IV} {roots : List Val} (hr : Reads tVal rv roots)
    (hroom : ∀ o ∈ T, o.room ≤ 1099511627776) (hs : ∀ o ∈ T, o.s.size ≤ 1048576) (hL : ∀ o ∈ T, o.l.xs.length ≤ 5000) :
    ∃ out, Grown T roots out out.length ∧ callW code ext 649 [.osl 0 0 5 T.length (some (T.length + 1)), .imm rv] [.flat (storeRow T) false] = some (int64 ((out.map (wordsAt T)).sum : Nat), [.flat (storeRow T) false]) := by
  obtain ⟨out, hG, hre⟩ := reach_spec (ext := ext) h h' h2 T hb hr
  refine ⟨out, hG, ?_⟩
  rw [callW_fun code ext h4]
  have hsh := hG.short
  by_cases hne : out = []
  · subst hne
    simp only [reachOut, if_true] at hre
    have hl : den code ext (.loop [4, 9, 10, 11] x649L1) ⟨1, [(4, int64 0), (9, nilS), (10, int64 0), (11, int64 0)], [.flat (storeRow T) false]⟩ = some (.exit 0, ⟨1, [(4, int64 0), (9, nilS), (10, int64 0), (11, int64 0), (12, avb false)], [.flat (storeRow T) false]⟩) := by
      rw [den_loop]
      simp -implicitDefEqProofs [x649L1]
    simp -implicitDefEqProofs [x649, hre, hl]
  · simp only [reachOut, if_neg hne] at hre
    have loop : ∃ e s', den code ext (.loop [4, 9, 10, 11] x649L1) ⟨1, [(4, int64 0), (9, .osl 1 0 1 out.length none), (10, int64 out.length), (11, int64 0)], [.flat (storeRow T) false, .rich (ptrs 0 out)]⟩ = some (e, s') ∧ e ≠ .normal ∧
        (e = .exit 0 ∧ s' = ⟨1, [(4, int64 ((out.map (wordsAt T)).sum : Nat)), (9, .osl 1 0 1 out.length none), (10, int64 out.length), (11, int64 out.length), (12, avb false)], [.flat (storeRow T) false, .rich (ptrs 0 out)]⟩) := by
      refine loop_rule (fun n s => ∃ (i : Nat), i + n = out.length ∧ ((out.take i).map (wordsAt T)).sum ≤ i * 3000000000000 ∧ s = ⟨1, [(4, int64 (((out.take i).map (wordsAt T)).sum : Nat)), (9, .osl 1 0 1 out.length none), (10, int64 out.length), (11, int64 (i : Nat))], [.flat (storeRow T) false, .rich (ptrs 0 out)]⟩) _ ?_ out.length _ ⟨0, by simp, by simp, by simp⟩
      rintro n _ ⟨i, hi, hm, rfl⟩
      by_cases hlt : i < out.length
      · have hk := List.getElem?_eq_getElem hlt
        have hkT := (hG.reach _ (List.getElem_mem hlt)).lt
        have htk : out.take (i + 1) = out.take i ++ [out[i]] := by rw [List.take_add_one, hk]; rfl
        generalize out[i] = k at hk hkT htk
        have hTk := List.getElem?_eq_getElem hkT
        have hmem := List.getElem_mem hkT
        have hp : (ptrs 0 out)[i]? = some (.optr 0 (k * 5)) := by simp [ptrs, hk]
        have hw := words_spec (ext := ext) h3 T k _ hTk (hroom _ hmem) (hs _ hmem) (hL _ hmem)
        have hwl := wordsOf_le _ (hroom _ hmem) (hs _ hmem) (hL _ hmem)
        have hwa : wordsAt T k = wordsOf T[k] := by simp [wordsAt, hTk]
        have hsum : ((out.take (i + 1)).map (wordsAt T)).sum = ((out.take i).map (wordsAt T)).sum + wordsOf T[k] := by rw [htk, List.map_append, List.sum_append]; simp [hwa]
        have e1 : IntKind.wrap .i64 ((i : Int) + 1) = (i : Int) + 1 := wrapI64 (by omega) (by omega)
        have hm2 : ((out.take i).map (wordsAt T)).sum ≤ 3145728000000000000 := Nat.le_trans hm (by omega)
        generalize ((out.take i).map (wordsAt T)).sum = m at *
        generalize wordsOf T[k] = w at *
        have e2 : IntKind.wrap .i64 ((m : Int) + (w : Int)) = (m : Int) + (w : Int) := wrapI64 (by omega) (by omega)
        refine ⟨.normal, ⟨1, [(4, int64 ((m : Int) + (w : Int))), (9, .osl 1 0 1 out.length none), (10, int64 out.length), (11, int64 ((i : Int) + 1))], [.flat (storeRow T) false, .rich (ptrs 0 out)]⟩, ?_, .inl ⟨rfl, n - 1, by omega, i + 1, by omega, ?_, ?_⟩⟩
        · simp -implicitDefEqProofs [x649L1, hlt, hp, hw, e1, e2]
        · rw [hsum, Nat.add_mul]; exact Nat.add_le_add hm (by rw [Nat.one_mul]; exact hwl)
        · rw [hsum]; rfl
      · have : i = out.length := by omega
        subst this
        rw [List.take_length]
        refine ⟨.exit 0, _, ?_, .inr ⟨by simp, rfl, rfl⟩⟩
        simp -implicitDefEqProofs [x649L1]
    obtain ⟨e, s', l1, _, rfl, rfl⟩ := loop
    simp -implicitDefEqProofs [x649, hre, l1]

theorem store_small {S : List Obj} (hw : ∀ o ∈ S, tObj.wf o) (hlb : S.length ≤ 140737488355328) (h : greatOf S = false) : ∀ o ∈ S, o.s.size ≤ 1048576 := by
  have hg := h
  unfold greatOf at h
  split at h
  · cases h
  simp only [Bool.or_eq_false_iff, decide_eq_false_iff_not] at h
  have key : ∀ (l : List Obj) (m : Int), (∀ o ∈ l, tObj.wf o) → 0 ≤ m → m ≤ 1000000000000000 → sizeGo m l ≤ 1048576 → ∀ o ∈ l, o.s.size ≤ 1048576 := by
    intro l
    induction l with
    | nil => intro m _ _ _ _ o ho; cases ho
    | cons x l ih =>
      intro m hw h0 h1 h2 o ho
      have hbx := objSize_bd x (hw x (List.mem_cons_self ..))
      rw [sizeGo] at h2
      split at h2
      · rename_i hc
        have hgo := sizeGo_bd l (m + objSize x) (fun y hy => hw y (List.mem_cons_of_mem _ hy)) (by omega) (by omega)
        rcases List.mem_cons.1 ho with rfl | ho
        · have : objSize o ≤ 1048576 := by omega
          unfold objSize at this
          split at this <;> omega
        · exact ih _ (fun y hy => hw y (List.mem_cons_of_mem _ hy)) (by omega) (by omega) h2 o ho
      · omega
  exact key S S.length hw (by omega) (by omega) (by omega)

theorem unm_start : ∀ (S : List Obj), (unm (List.replicate S.length false) S : Int) = sumL S + S.length
  | [] => by simp [unm, sumL]
  | o :: S => by
    have := unm_start S
    simp only [List.length_cons, List.replicate_succ, unm, sumL]
    omega

theorem leads_twin (S : List Obj) (v : Val) : leadsOf (S.map twinObj) v = leadsOf S v := by
  unfold leadsOf
  simp only [List.length_map, List.getElem?_map]
  cases S[(v.n - 1).toNat]? with
  | none => rfl
  | some o => rfl

theorem reach_twin (S : List Obj) (roots : List Val) (k : Nat) : Reach (S.map twinObj) roots k ↔ Reach S roots k := by
  constructor
  · intro h
    induction h with
    | root hv hl => exact .root hv (by rw [← leads_twin]; exact hl)
    | step hk ho hv hl ih =>
      rw [List.getElem?_map, Option.map_eq_some_iff] at ho
      obtain ⟨o, ho, rfl⟩ := ho
      exact .step ih ho hv (by rw [← leads_twin]; exact hl)
  · intro h
    induction h with
    | root hv hl => exact .root hv (by rw [leads_twin]; exact hl)
    | step hk ho hv hl ih => exact .step ih (o := twinObj _) (by rw [List.getElem?_map, ho]; rfl) hv (by rw [leads_twin]; exact hl)

theorem words_twin (S : List Obj) (k : Nat) : wordsAt (S.map twinObj) k = wordsAt S k := by
  unfold wordsAt
  rw [List.getElem?_map]
  cases S[k]? with
  | none => rfl
  | some o => rfl

/-- Both count the same. -/
theorem words_agree {S : List Obj} {roots : List Val} {out : List Nat} {F : List Bool} (hg : Grown (S.map twinObj) roots out out.length) (hm : Marks S roots F []) : (out.map (wordsAt (S.map twinObj))).sum = markedWords S F := by
  have e : wordsAt (S.map twinObj) = wordsAt S := funext (words_twin S)
  rw [e]
  unfold markedWords
  refine List.Perm.sum_nat (List.Perm.map _ ((List.perm_ext_iff_of_nodup hg.nodup (List.nodup_range.filter _)).2 fun k => ?_))
  rw [hg.done (Nat.le_refl _) k, reach_twin, List.mem_filter, List.mem_range, ← hm.done k]
  constructor
  · intro h; exact ⟨((hm.done k).1 h).lt, by simp [h]⟩
  · rintro ⟨_, h⟩; simpa using h

def code4w : Nat → Option XFun
  | 443 => some x443
  | 445 => some x445
  | 377 => some x377
  | 379 => some x379
  | 649 => some x649
  | 505 => some x505
  | 334 => some x334
  | 336 => some x336
  | 303 => some x303
  | 361 => some x361
  | 373 => some x373
  | 654 => some x654
  | 657 => some x657
  | 509 => some x509
  | 330 => some x330
  | 339 => some x339
  | 372 => some x372
  | 655 => some x655
  | 651 => some x651
  | 502 => some x502
  | 329 => some x329
  | 338 => some x338
  | 380 => some x380
  | _ => none

theorem room_loop (sv : IV) (rv : AV) (S : List Obj) (hr : Reads tObj sv S) : ∃ e s', den code ext (.loop [0, 1, 5] x443L1) ⟨0, [(0, .imm sv), (1, rv), (5, int64 0)], []⟩ = some (e, s') ∧ e ≠ .normal ∧
    ((e = .exit 0 ∧ (∀ o ∈ S, o.room ≤ 1099511627776) ∧ s' = ⟨0, [(0, .imm sv), (1, rv), (5, int64 S.length), (18, avb false)], []⟩) ∨ (e = .ret ∧ s' = ⟨0, [(4, avb true)], []⟩)) := by
  have hlen := reads_len hr
  have hb := hr.2.1
  refine loop_rule (fun n s => ∃ (i : Nat), i + n = S.length ∧ (∀ o ∈ S.take i, o.room ≤ 1099511627776) ∧ s = ⟨0, [(0, .imm sv), (1, rv), (5, int64 (i : Nat))], []⟩) _ ?_ S.length _ ⟨0, by simp, by simp, rfl⟩
  rintro n _ ⟨i, hi, hall, rfl⟩
  by_cases hlt : i < S.length
  · obtain ⟨row, off, cap, rfl, hc, hcut, hget⟩ := reads_pos hr (List.getElem?_eq_getElem hlt)
    have e1 : IntKind.wrap .i64 ((i : Int) + 1) = (i : Int) + 1 := wrapI64 (by omega) (by omega)
    have htk : S.take (i + 1) = S.take i ++ [S[i]] := by rw [List.take_add_one, List.getElem?_eq_getElem hlt]; rfl
    generalize S[i] = o at hget htk
    simp only [tObj] at hget
    have g3 : row[off + i * 5 + 3]? = some (.val (.int .i64 o.room)) := cut_get hget 3 (by omega)
    by_cases hc2 : (1099511627776 : Int) < o.room
    · refine ⟨.ret, ⟨0, [(4, avb true)], []⟩, ?_, .inr ⟨by simp, .inr ⟨rfl, rfl⟩⟩⟩
      simp -implicitDefEqProofs [x443L1, hlt, g3, hc2]
    · refine ⟨.normal, ⟨0, [(0, .imm (.slice row off S.length cap)), (1, rv), (5, int64 ((i : Int) + 1))], []⟩, ?_, .inl ⟨rfl, n - 1, by omega, i + 1, by omega, fun q hq => ?_, rfl⟩⟩
      · simp -implicitDefEqProofs [x443L1, hlt, g3, hc2, e1]
      · rw [htk, List.mem_append, List.mem_singleton] at hq
        rcases hq with hq | rfl
        · exact hall q hq
        · omega
  · have : i = S.length := by omega
    subst this
    rw [List.take_length] at hall
    refine ⟨.exit 0, _, ?_, .inr ⟨by simp, .inl ⟨rfl, hall, rfl⟩⟩⟩
    simp -implicitDefEqProofs [x443L1, hlen]

theorem showWords_ok (h : ∀ g f, code4w g = some f → code g = some f) {sv rv : IV} {S : List Obj} {roots : List Val} (hr : Reads tObj sv S) (hq : Reads tVal rv roots) : ∃ m, callW code ext 443 [.imm sv, .imm rv] [] = some (avb true, m) := by
  have hlen := reads_len hr
  have hlen2 := reads_len hq
  have hg := great_spec (ext := ext) (h 303 _ rfl) (h 380 _ rfl) (h 338 _ rfl) (h 339 _ rfl) (h 361 _ rfl) (h 445 _ rfl) hr
  refine ⟨[], ?_⟩
  rw [callW_fun code ext (h 443 _ rfl)]
  cases hgr : greatOf S with
  | true =>
    rw [hgr] at hg
    simp -implicitDefEqProofs [x443, hg]
  | false =>
    rw [hgr] at hg
    obtain ⟨hL, hS, hsum⟩ := great_false hr.1 hr.2.1 hgr
    have hs := store_small hr.1 hr.2.1 hgr
    by_cases hc : (5000 : Int) < roots.length
    · simp -implicitDefEqProofs [x443, hg, hlen2, hc]
    · obtain ⟨e, s', l1, _, ⟨rfl, hroom, rfl⟩ | ⟨rfl, rfl⟩⟩ := room_loop (code := code) (ext := ext) sv (.imm rv) S hr
      · have hts := twinStore_spec (ext := ext) (h 379 _ rfl) (h 372 _ rfl) (h 373 _ rfl) (h 377 _ rfl) hr hL hS
        have htv := twinVals_spec (ext := ext) (h 379 _ rfl) hq (by omega)
        have hls := leftStore_spec (ext := ext) (h 336 _ rfl) (h 329 _ rfl) (h 330 _ rfl) (h 334 _ rfl) hr
        have hlv := leftVals_spec (ext := ext) (h 336 _ rfl) hq
        have hrt := twinIV_reads tVal spVal hq
        obtain ⟨out, hG, hw⟩ := showWords_spec (ext := ext) (h 651 _ rfl) (h 655 _ rfl) (h 654 _ rfl) (h 657 _ rfl) (h 649 _ rfl) (S.map twinObj) (by simpa using hS) hrt
          (fun o ho => by obtain ⟨p, hp, rfl⟩ := List.mem_map.1 ho; exact hroom p hp) (fun o ho => by obtain ⟨p, hp, rfl⟩ := List.mem_map.1 ho; exact hs p hp) (fun o ho => by obtain ⟨p, hp, rfl⟩ := List.mem_map.1 ho; exact hL p hp)
        have hun := unm_start S
        obtain ⟨F, hI, hre, _⟩ := refWords_spec (ext := ext) (h 502 _ rfl) (h 509 _ rfl) (h 505 _ rfl) hr hq (by omega) hS hroom hs hL
        have hag := words_agree hG hI
        rw [hag] at hw
        simp only [storeRow, List.length_map] at hw
        generalize markedWords S F = w at *
        generalize htr : tObj.row (S.map twinObj ++ [spObj]) = R at *
        simp only [twinIV] at hw hlv
        have hown : (R.all IV.plain = true) ∨ ¬ (R.all IV.plain = true) := by cases R.all IV.plain <;> simp
        simp -implicitDefEqProofs [x443, hg, hlen2, hc, l1, hts, htv, hw, hre, hls, hlv]
      · simp -implicitDefEqProofs [x443, hg, hlen2, hc, l1]

end
end Go.EX
