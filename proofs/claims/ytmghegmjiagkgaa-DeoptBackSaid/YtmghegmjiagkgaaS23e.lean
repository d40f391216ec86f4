/-
  EX: law 23: DeoptBack.
-/
import Derived.Test.YtmghegmjiagkgaaS23d
set_option linter.unusedVariables false
set_option linter.unusedSimpArgs false
namespace Go.EX

section
variable {code : Nat → Option XFun} {ext : Calls'}

/-! ### the plain law -/

theorem enterGo_ok : ∀ (rest : List (Int × Val)) (seen : List Int) (regs : List Val), (∀ p ∈ rest, 0 ≤ p.1 ∧ p.1 < (regs.length : Int)) → (rest.map (·.1)).Nodup → (∀ p ∈ rest, p.1 ∉ seen) →
    ∃ out, enterGo seen rest regs = some out ∧ out.length = regs.length ∧ (∀ p ∈ rest, out[p.1.toNat]? = some p.2) ∧ ∀ j : Nat, (j : Int) ∉ rest.map (·.1) → out[j]? = regs[j]?
  | [], seen, regs, _, _, _ => ⟨regs, rfl, rfl, by simp, fun j _ => rfl⟩
  | (r, v) :: rest, seen, regs, h1, h2, h3 => by
    have hr := h1 (r, v) (List.mem_cons_self ..)
    have hs := h3 (r, v) (List.mem_cons_self ..)
    simp only [List.map_cons, List.nodup_cons] at h2
    obtain ⟨out, g1, g2, g3, g4⟩ := enterGo_ok rest (seen ++ [r]) (regs.set r.toNat v) (fun p hp => by rw [List.length_set]; exact h1 p (List.mem_cons_of_mem _ hp)) h2.2 (fun p hp hm => by
      rw [List.mem_append, List.mem_singleton] at hm
      rcases hm with hm | hm
      · exact h3 p (List.mem_cons_of_mem _ hp) hm
      · exact h2.1 (hm ▸ List.mem_map_of_mem hp))
    refine ⟨out, ?_, by rw [g2, List.length_set], fun p hp => ?_, fun j hj => ?_⟩
    · simp only at hr hs
      rw [enterGo, if_neg (by omega), if_neg (by omega), if_neg hs, g1]
    · rcases List.mem_cons.1 hp with rfl | hp
      · simp only at hr ⊢
        rw [g4 r.toNat (by rw [Int.toNat_of_nonneg hr.1]; exact h2.1), List.getElem?_set, if_pos rfl, if_pos (by omega)]
      · exact g3 p hp
    · simp only [List.map_cons, List.mem_cons, not_or] at hj
      simp only at hr
      rw [g4 j hj.2, List.getElem?_set, if_neg (by omega)]

def locOf (r : Int) : Loc := ⟨r, 0, 0⟩

theorem back_plain (R : List Int) (vs : List Val) (hl : R.length = vs.length) (hr : ∀ r ∈ R, 0 ≤ r ∧ r < 600) (hn : R.Nodup) :
    ∃ out, enterGo [] (R.zip vs) (List.replicate 600 zVal) = some out ∧ out.length = 600 ∧ (R.map locOf).mapM (tellOf · out) = some vs := by
  obtain ⟨out, g1, g2, g3, _⟩ := enterGo_ok (R.zip vs) [] (List.replicate 600 zVal) (fun p hp => by
    have := hr p.1 (List.of_mem_zip hp).1
    rw [List.length_replicate]; omega) (by rw [List.map_fst_zip (by omega)]; exact hn) (fun p _ h => by cases h)
  simp only [List.length_replicate] at g2
  refine ⟨out, g1, g2, ?_⟩
  have : ∀ (R : List Int) (vs : List Val), R.length = vs.length → (∀ r ∈ R, 0 ≤ r ∧ r < 600) → (∀ p ∈ R.zip vs, out[p.1.toNat]? = some p.2) → (R.map locOf).mapM (tellOf · out) = some vs := by
    intro R
    induction R with
    | nil => intro vs hl _ _; cases vs with | nil => rfl | cons => cases hl
    | cons r R ih =>
      intro vs hl hr hz
      cases vs with
      | nil => cases hl
      | cons v vs =>
        have h0 := hr r (List.mem_cons_self ..)
        have h1 := hz (r, v) (by simp)
        rw [List.map_cons, List.mapM_cons, ih vs (by simpa using hl) (fun r' h => hr r' (List.mem_cons_of_mem _ h)) (fun p hp => hz p (by rw [List.zip_cons_cons]; exact List.mem_cons_of_mem _ hp))]
        have h2 : tellOf (locOf r) out = some v := by
          simp only [tellOf, locOf]
          rw [if_neg (by omega), if_pos h0.1]; exact h1
        rw [h2]; rfl
  exact this R vs hl hr g3

theorem filter_lt (R : List Int) (r : Int) (h : r ∈ R) : (R.filter fun x => decide (r + 1 ≤ x)).length < (R.filter fun x => decide (r ≤ x)).length := by
  have : ∀ (R : List Int), (R.filter fun x => decide (r + 1 ≤ x)).length ≤ (R.filter fun x => decide (r ≤ x)).length ∧ (r ∈ R → (R.filter fun x => decide (r + 1 ≤ x)).length < (R.filter fun x => decide (r ≤ x)).length) := by
    intro R
    induction R with
    | nil => simp
    | cons x R ih =>
      simp only [List.filter_cons]
      by_cases h1 : r + 1 ≤ x
      · have h2 : r ≤ x := by omega
        simp only [h1, h2, decide_true, if_true, List.length_cons]
        refine ⟨by omega, fun hm => ?_⟩
        rcases List.mem_cons.1 hm with rfl | hm
        · omega
        · have := ih.2 hm; omega
      · by_cases h2 : r ≤ x
        · simp only [h1, h2, decide_true, decide_false, if_true, List.length_cons]
          refine ⟨by simp; omega, fun hm => by simp; omega⟩
        · simp only [h1, h2, decide_false]
          refine ⟨by simpa using ih.1, fun hm => ?_⟩
          rcases List.mem_cons.1 hm with rfl | hm
          · omega
          · simpa using ih.2 hm
  exact (this R).2 h

/-! ### the loops -/

def seenMap (R : List Int) : List (AV × AV) := R.map fun r => (int64 r, int64 1)

theorem findK_ints (m : Mem) (r : Int) : ∀ (R : List Int) (i : Nat), (r ∉ R ∧ findK m 0 (int64 r) (seenMap R) i = some none) ∨ (r ∈ R ∧ ∃ j, findK m 0 (int64 r) (seenMap R) i = some (some (i + j)) ∧ (seenMap R)[j]? = some (int64 r, int64 1))
  | [], i => .inl ⟨by simp, rfl⟩
  | x :: R, i => by
    by_cases h : r = x
    · subst h
      exact .inr ⟨by simp, 0, by simp [seenMap, findK, keyEq], rfl⟩
    · have hf : findK m 0 (int64 r) (seenMap (x :: R)) i = findK m 0 (int64 r) (seenMap R) (i + 1) := by simp [seenMap, findK, keyEq, h]
      rcases findK_ints m r R (i + 1) with ⟨h1, h2⟩ | ⟨h1, j, h2, h3⟩
      · exact .inl ⟨by simp [h, h1], by rw [hf, h2]⟩
      · refine .inr ⟨by simp [h1], j + 1, ?_, h3⟩
        rw [hf, h2]; congr 2; omega

theorem free_loop (R : List Int) (a0 a1 a5 v6 v7 a9 : AV) (mi : Nat) (M : Mem) (hM : M[mi]? = some (.map (seenMap R))) (hR : ∀ x ∈ R, x < 1000000)
    (ht : ∀ r : Int, (⟨0, [(0, a0), (1, a1), (5, a5), (6, v6), (7, v7), (8, .omap mi), (9, a9), (10, int64 r)], M⟩ : St).tidy [0, 1, 5, 6, 7, 8, 9, 10] = ⟨0, [(0, a0), (1, a1), (5, a5), (6, v6), (7, v7), (8, .omap mi), (9, a9), (10, int64 r)], M⟩) (r : Int) (h0 : 0 ≤ r) (h1 : r < 1000000) :
    ∃ e s', den code ext (.loop [0, 1, 5, 6, 7, 8, 9, 10] x493L1) ⟨0, [(0, a0), (1, a1), (5, a5), (6, v6), (7, v7), (8, .omap mi), (9, a9), (10, int64 r)], M⟩ = some (e, s') ∧ e ≠ .normal ∧
      (e = .exit 2 ∧ ∃ r', r' ∉ R ∧ 0 ≤ r' ∧ r' ≤ r + (R.filter fun x => decide (r ≤ x)).length ∧ s' = ⟨0, [(0, a0), (1, a1), (5, a5), (6, v6), (7, v7), (8, .omap mi), (9, a9), (10, int64 r'), (42, avb false)], M⟩) := by
  refine loop_rule (fun n s => ∃ q : Int, 0 ≤ q ∧ q < 1000001 ∧ n = (R.filter fun x => decide (q ≤ x)).length ∧ q + n ≤ r + (R.filter fun x => decide (r ≤ x)).length ∧ s = ⟨0, [(0, a0), (1, a1), (5, a5), (6, v6), (7, v7), (8, .omap mi), (9, a9), (10, int64 q)], M⟩) _ ?_ _ _ ⟨r, h0, by omega, rfl, by omega, rfl⟩
  rintro n s ⟨q, hq0, hq1, hn, hq, rfl⟩
  rw [ht]
  have e1 : IntKind.wrap .i64 (q + 1) = q + 1 := wrapI64 (by omega) (by omega)
  rcases findK_ints M q R 0 with ⟨h2, h3⟩ | ⟨h2, j, h3, h4⟩
  · refine ⟨.exit 2, ⟨0, [(0, a0), (1, a1), (5, a5), (6, v6), (7, v7), (8, .omap mi), (9, a9), (10, int64 q), (42, avb false)], M⟩, ?_, .inr ⟨by simp, rfl, q, h2, hq0, by omega, rfl⟩⟩
    simp -implicitDefEqProofs [x493L1, hM, h3]
  · have := filter_lt R q h2
    rw [Nat.zero_add] at h3
    have hqb := hR q h2
    refine ⟨.normal, ⟨0, [(0, a0), (1, a1), (5, a5), (6, v6), (7, v7), (8, .omap mi), (9, a9), (10, int64 (q + 1))], M⟩, ?_, .inl ⟨rfl, (R.filter fun x => decide (q + 1 ≤ x)).length, by omega, q + 1, by omega, by omega, rfl, by omega, rfl⟩⟩
    simp -implicitDefEqProofs [x493L1, hM, h3, h4, e1]

theorem seenMap_snoc (R : List Int) (r : Int) : seenMap R ++ [(int64 r, int64 1)] = seenMap (R ++ [r]) := by simp [seenMap]
theorem row_snoc {α : Type} (t : Ty α) (xs : List α) (x : α) : t.row xs ++ t.enc x = t.row (xs ++ [x]) := by simp [Ty.row]
theorem cut_row {α : Type} (t : Ty α) (xs : List α) : cut (t.row xs) 0 (xs.length * t.sz) = some (t.row xs) := cut_all _ (row_len t xs)

abbrev nilS : AV := .imm (.val (.slice none 0 0))

theorem pickOne (ov sv : IV) (order : List Int) (ho : Reads (tInt .u8) ov order) (n i : Nat) (hi : i < n) (hn : n ≤ order.length) (hn' : n ≤ 300) (R : List Int) (hR : R.length = i) (hb : ∀ x ∈ R, 0 ≤ x ∧ x < 300 + i) (m1 m2 : Bool) (h0 : 0 < i) :
    ∃ r, r ∉ R ∧ 0 ≤ r ∧ r < 300 + (i + 1) ∧ ∃ s', den code ext x493L2 ⟨0, [(0, .imm ov), (1, .imm sv), (5, int64 n), (6, .osl 0 0 1 i none), (7, .osl 1 0 3 i none), (8, .omap 2), (9, int64 i)], [.flat ((tInt .i64).row R) m1, .flat (tLoc.row (R.map locOf)) m2, .map (seenMap R)]⟩ = some (.normal, s') ∧
      s'.tidy [0, 1, 5, 6, 7, 8, 9] = ⟨0, [(0, .imm ov), (1, .imm sv), (5, int64 n), (6, .osl 0 0 1 (i + 1) none), (7, .osl 1 0 3 (i + 1) none), (8, .omap 2), (9, int64 ((i : Int) + 1))], [.flat ((tInt .i64).row (R ++ [r])) true, .flat (tLoc.row ((R ++ [r]).map locOf)) true, .map (seenMap (R ++ [r]))]⟩ := by
  have hlt : i < order.length := by omega
  obtain ⟨row, off, cap, rfl, hc, hcut, hget⟩ := reads_pos ho (List.getElem?_eq_getElem hlt)
  have hcell := cut_one (by simpa [tInt] using hget)
  have hw := wfU8.1 (ho.1 _ (List.getElem_mem hlt))
  generalize order[i] = o at hcell hw
  have e1 : IntKind.wrap .i64 ((i : Int) + 1) = (i : Int) + 1 := wrapI64 (by omega) (by omega)
  have e2 : IntKind.wrap .i64 o = o := wrapI64 (by omega) (by omega)
  have hli : (i : Int) < n := by omega
  obtain ⟨e, s1, h1, _, rfl, r, g1, g2, g3, rfl⟩ := free_loop (code := code) (ext := ext) R (.imm (.slice row off order.length cap)) (.imm sv) (int64 n) (.osl 0 0 1 i none) (.osl 1 0 3 i none) (int64 i) 2 [.flat ((tInt .i64).row R) m1, .flat (tLoc.row (R.map locOf)) m2, .map (seenMap R)] rfl (fun x hx => by have := hb x hx; omega)
    (fun r => by have hk : ∀ (f : Nat → Option Nat), List.map (fun p => (AV.ren f p.1, AV.ren f p.2)) (seenMap R) = seenMap R := fun f => by simp [seenMap]
                 have hk2 : AV.refs.refsL (List.map (fun x => x.1) (seenMap R)) = [] := by
                   unfold seenMap; generalize R = R'; induction R' with | nil => rfl | cons x R' ih => simpa using ih
                 have hk3 : AV.refs.refsL (List.map (fun x => x.2) (seenMap R)) = [] := by
                   unfold seenMap; generalize R = R'; induction R' with | nil => rfl | cons x R' ih => simpa using ih
                 simp -implicitDefEqProofs [hk, hk2, hk3]) o (by omega) (by omega)
  have hfl : (R.filter fun x => decide (o ≤ x)).length ≤ i := by rw [← hR]; exact List.length_filter_le _ _
  refine ⟨r, g1, g2, by omega, ?_⟩
  have hfind : ∀ m : Mem, findK m 0 (int64 r) (seenMap R) 0 = some none := fun m => by
    rcases findK_ints m r R 0 with ⟨_, h⟩ | ⟨h, _⟩
    · exact h
    · exact absurd h g1
  have hc1 : cut ((tInt .i64).row R) 0 i = some ((tInt .i64).row R) := by have := cut_row (tInt .i64) R; rw [hR] at this; simpa [tInt] using this
  have hc2 : cut (tLoc.row (R.map locOf)) 0 (i * 3) = some (tLoc.row (R.map locOf)) := by have := cut_row tLoc (R.map locOf); rw [List.length_map, hR] at this; exact this
  have hs1 : (tInt .i64).row R ++ [.val (.int .i64 r)] = (tInt .i64).row (R ++ [r]) := row_snoc (tInt .i64) R r
  have hs2 : tLoc.row (R.map locOf) ++ [.val (.int .i64 r), .val (.int .u8 0), .val (.int .i64 0)] = tLoc.row ((R ++ [r]).map locOf) := by rw [List.map_append]; exact row_snoc tLoc (R.map locOf) (locOf r)
  have hs3 := seenMap_snoc R r
  have hk : ∀ (f : Nat → Option Nat), List.map (fun p => (AV.ren f p.1, AV.ren f p.2)) (seenMap (R ++ [r])) = seenMap (R ++ [r]) := fun f => by simp [seenMap]
  have hk2 : AV.refs.refsL (List.map (fun x => x.1) (seenMap (R ++ [r]))) = [] := by
    unfold seenMap; generalize R ++ [r] = R'; induction R' with | nil => rfl | cons x R' ih => simpa using ih
  have hk3 : AV.refs.refsL (List.map (fun x => x.2) (seenMap (R ++ [r]))) = [] := by
    unfold seenMap; generalize R ++ [r] = R'; induction R' with | nil => rfl | cons x R' ih => simpa using ih
  have hb1 : (i + 1) * 8 ≤ 140737488355328 := by omega
  have hb2 : (i + 1) * 24 ≤ 140737488355328 := by omega
  refine ⟨⟨0, [(0, .imm (.slice row off order.length cap)), (1, .imm sv), (5, int64 n), (6, .osl 0 0 1 (i + 1) none), (7, .osl 1 0 3 (i + 1) none), (8, .omap 2), (9, int64 ((i : Int) + 1))], [.flat ((tInt .i64).row (R ++ [r])) true, .flat (tLoc.row ((R ++ [r]).map locOf)) true, .map (seenMap (R ++ [r])), .flat [.val (.int .i64 r)] false, .flat [.val (.int .i64 r), .val (.int .u8 0), .val (.int .i64 0)] false]⟩, ?_, ?_⟩
  · simp -implicitDefEqProofs [x493L2, hli, hcell, e1, e2, h1, hfind, hs3, exAppend, elems, hc1, hc2, hs1, hs2, hk, hb1, hb2, hlt]
  · simp -implicitDefEqProofs [hk, hk2, hk3]

theorem pickFirst (ov sv : IV) (order : List Int) (ho : Reads (tInt .u8) ov order) (n : Nat) (hi : 0 < n) (hn : n ≤ order.length) (hn' : n ≤ 300) :
    ∃ r, 0 ≤ r ∧ r < 300 ∧ ∃ s', den code ext x493L2 ⟨0, [(0, .imm ov), (1, .imm sv), (5, int64 n), (6, nilS), (7, nilS), (8, .omap 0), (9, int64 0)], [.map []]⟩ = some (.normal, s') ∧
      s'.tidy [0, 1, 5, 6, 7, 8, 9] = ⟨0, [(0, .imm ov), (1, .imm sv), (5, int64 n), (6, .osl 0 0 1 1 none), (7, .osl 1 0 3 1 none), (8, .omap 2), (9, int64 1)], [.flat ((tInt .i64).row [r]) false, .flat (tLoc.row ([r].map locOf)) false, .map (seenMap [r])]⟩ := by
  have hlt : 0 < order.length := by omega
  obtain ⟨row, off, cap, rfl, hc, hcut, hget⟩ := reads_pos ho (List.getElem?_eq_getElem hlt)
  have hcell := cut_one (by simpa [tInt] using hget)
  have hw := wfU8.1 (ho.1 _ (List.getElem_mem hlt))
  generalize order[0] = o at hcell hw
  have e1 : IntKind.wrap .i64 1 = 1 := rfl
  have e2 : IntKind.wrap .i64 o = o := wrapI64 (by omega) (by omega)
  obtain ⟨e, s1, h1, _, rfl, r, g1, g2, g3, rfl⟩ := free_loop (code := code) (ext := ext) [] (.imm (.slice row off order.length cap)) (.imm sv) (int64 n) nilS nilS (int64 0) 0 [.map []] rfl (by simp)
    (fun r => by simp -implicitDefEqProofs) o (by omega) (by omega)
  simp at g3
  refine ⟨r, g2, by omega, ?_⟩
  have hs1 : (tInt .i64).row [r] = [.val (.int .i64 r)] := rfl
  have hs2 : tLoc.row [locOf r] = [.val (.int .i64 r), .val (.int .u8 0), .val (.int .i64 0)] := rfl
  refine ⟨⟨0, [(0, .imm (.slice row off order.length cap)), (1, .imm sv), (5, int64 n), (6, .osl 2 0 1 1 none), (7, .osl 4 0 3 1 none), (8, .omap 0), (9, int64 1)], [.map (seenMap [r]), .flat [.val (.int .i64 r)] false, .flat [.val (.int .i64 r)] false, .flat [.val (.int .i64 r), .val (.int .u8 0), .val (.int .i64 0)] false, .flat [.val (.int .i64 r), .val (.int .u8 0), .val (.int .i64 0)] false]⟩, ?_, ?_⟩
  · simp -implicitDefEqProofs [x493L2, hi, hcell, e1, e2, h1, findK, exAppend, elems, hlt, seenMap]
  · simp -implicitDefEqProofs [hs1, hs2, seenMap]

theorem pick_all (ov sv : IV) (order : List Int) (ho : Reads (tInt .u8) ov order) (n : Nat) (h0 : 0 < n) (hn : n ≤ order.length) (hn' : n ≤ 300) :
    ∃ e s', den code ext (.loop [0, 1, 5, 6, 7, 8, 9] x493L2) ⟨0, [(0, .imm ov), (1, .imm sv), (5, int64 n), (6, nilS), (7, nilS), (8, .omap 0), (9, int64 0)], [.map []]⟩ = some (e, s') ∧ e ≠ .normal ∧
      (e = .exit 0 ∧ ∃ (R : List Int) (m1 m2 : Bool), R.length = n ∧ R.Nodup ∧ (∀ x ∈ R, 0 ≤ x ∧ x < 600) ∧
        s' = ⟨0, [(0, .imm ov), (1, .imm sv), (5, int64 n), (6, .osl 0 0 1 n none), (7, .osl 1 0 3 n none), (8, .omap 2), (9, int64 n), (31, avb false)], [.flat ((tInt .i64).row R) m1, .flat (tLoc.row (R.map locOf)) m2, .map (seenMap R)]⟩) := by
  refine loop_rule (fun k s => ∃ i, i + k = n ∧ ((i = 0 ∧ s.tidy [0, 1, 5, 6, 7, 8, 9] = ⟨0, [(0, .imm ov), (1, .imm sv), (5, int64 n), (6, nilS), (7, nilS), (8, .omap 0), (9, int64 0)], [.map []]⟩) ∨
    (0 < i ∧ ∃ (R : List Int) (m1 m2 : Bool), R.length = i ∧ R.Nodup ∧ (∀ x ∈ R, 0 ≤ x ∧ x < 300 + i) ∧ s.tidy [0, 1, 5, 6, 7, 8, 9] = ⟨0, [(0, .imm ov), (1, .imm sv), (5, int64 n), (6, .osl 0 0 1 i none), (7, .osl 1 0 3 i none), (8, .omap 2), (9, int64 i)], [.flat ((tInt .i64).row R) m1, .flat (tLoc.row (R.map locOf)) m2, .map (seenMap R)]⟩))) _ ?_ n _ ⟨0, by omega, .inl ⟨rfl, by simp -implicitDefEqProofs⟩⟩
  rintro k s ⟨i, hi, ⟨rfl, hst⟩ | ⟨hpos, R, m1, m2, g1, g2, g3, hst⟩⟩
  · rw [hst]
    obtain ⟨r, h1, h2, s', h3, h4⟩ := pickFirst (code := code) (ext := ext) ov sv order ho n h0 hn hn'
    exact ⟨.normal, s', h3, .inl ⟨rfl, k - 1, by omega, 1, by omega, .inr ⟨by omega, [r], false, false, rfl, by simp, by simp; omega, h4⟩⟩⟩
  · rw [hst]
    by_cases hlt : i < n
    · obtain ⟨r, q1, q2, q3, s', q4, q5⟩ := pickOne (code := code) (ext := ext) ov sv order ho n i hlt hn hn' R g1 g3 m1 m2 hpos
      refine ⟨.normal, s', q4, .inl ⟨rfl, k - 1, by omega, i + 1, by omega, .inr ⟨by omega, R ++ [r], true, true, by simp [g1], ?_, fun x hx => ?_, by rw [q5]; rfl⟩⟩⟩
      · rw [List.nodup_append]
        exact ⟨g2, by simp, fun a ha b hb => by simp at hb; subst hb; exact fun e => q1 (e ▸ ha)⟩
      · rw [List.mem_append, List.mem_singleton] at hx
        rcases hx with hx | rfl
        · have := g3 x hx; omega
        · omega
    · have : i = n := by omega
      subst this
      refine ⟨.exit 0, ⟨0, [(0, .imm ov), (1, .imm sv), (5, int64 i), (6, .osl 0 0 1 i none), (7, .osl 1 0 3 i none), (8, .omap 2), (9, int64 i), (31, avb false)], [.flat ((tInt .i64).row R) m1, .flat (tLoc.row (R.map locOf)) m2, .map (seenMap R)]⟩, ?_, .inr ⟨by simp, rfl, R, m1, m2, g1, g2, fun x hx => ?_, rfl⟩⟩
      · simp -implicitDefEqProofs [x493L2]
      · have := g3 x hx; omega

end
end Go.EX
