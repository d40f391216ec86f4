import Derived.Test.YtfmpeoickjggiaaGreatDoorV9yb
import Derived.Test.YtfmpeoickjggiaaGreatDoorL9b
set_option linter.unusedVariables false
set_option linter.unusedSimpArgs false
namespace Go.EX
def slT {α : Type} (t : Ty α) (s : Sl t) (sp : α) (h : s.xs.length ≤ 140737488355328 := by assumption) : Sl t :=
  ⟨.slice (t.row (s.xs ++ [sp])) 0 s.xs.length (some (s.xs.length + 1)), s.xs, s.ok.1, s.ok.2.1, .inr ⟨_, 0, _, rfl, fun c hc => by cases hc; omega, by
    have := flatMap_cut (t := t) t.len (s.xs ++ [sp]) 0 s.xs.length (by simp)
    rw [Nat.zero_mul] at this
    rw [Ty.row, this]; simp⟩⟩
def twin (f : Fn) : Fn := ⟨f.name, f.params, f.locals, slT tCap f.caps sCap f.caps.ok.2.1, slT tConst f.consts sConst f.consts.ok.2.1, slT tIns f.code sIns f.code.ok.2.1, slT (tInt .i64) f.lines 7777 f.lines.ok.2.1, slT tHandler f.handlers sHand f.handlers.ok.2.1⟩
theorem spare_refs : AV.refs.refsL spareFn = [] := rfl
end Go.EX

set_option linter.unusedVariables false
set_option linter.unusedSimpArgs false
namespace Go.EX
theorem mapM_app {α β : Type} (f : α → Option β) : ∀ (a b : List α) {x y : List β}, a.mapM f = some x → b.mapM f = some y → (a ++ b).mapM f = some (x ++ y) := by
  intro a b x y h1 h2
  rw [List.mapM_append, h1, h2]
  rfl
def spareIV : List IV := [.val (.string ⟨#[115, 112, 97, 114, 101]⟩), .val (.int .i64 0), .val (.int .i64 0), .val (.slice none 0 0), .val (.slice none 0 0), .val (.slice none 0 0), .val (.slice none 0 0), .val (.slice none 0 0)]
theorem frz_row (m : Mem) : ∀ (gs : List Fn) (j : Nat), (∀ (k : Nat) (g : Fn), gs[k]? = some g → m[j + k + 1]? = some (lobj g)) → (twRow j gs).mapM (frzV m 19) = some (gs.flatMap fun g => tFn.enc (twin g))
  | [], j, _ => rfl
  | g :: r, j, h => by
    rw [twRow, List.flatMap_cons]
    refine mapM_app _ _ _ ?_ (frz_row m r (j + 1) fun k g hk => by rw [show j + 1 + k + 1 = j + (k + 1) + 1 by omega]; exact h (k + 1) g (by simpa using hk))
    have h0 := h 0 g rfl
    rw [Nat.add_zero] at h0
    simp only [twCells, List.mapM_cons, List.mapM_nil, frzV, h0, lobj]
    rfl
theorem frz_spare (m : Mem) : spareFn.mapM (frzV m 19) = some spareIV := rfl
theorem frz_twins (gs : List Fn) : (twRow 0 gs ++ spareFn).mapM (frzV (.rich (twRow 0 gs ++ spareFn) :: gs.map lobj) 19) = some ((gs.flatMap fun g => tFn.enc (twin g)) ++ spareIV) := by
  refine mapM_app _ _ _ (frz_row _ _ _ fun k g hk => ?_) (frz_spare _)
  rw [Nat.zero_add, List.getElem?_cons_succ, List.getElem?_map, hk]
  rfl
theorem reads_twins (gs : List Fn) (hw : ∀ g ∈ gs, tFn.wf g) (hl : gs.length ≤ 1048576) : Reads tFn (.slice ((gs.flatMap fun g => tFn.enc (twin g)) ++ spareIV) 0 gs.length (some (gs.length + 1))) (gs.map twin) := by
  have := reads_new (t := tFn) (xs := gs.map twin) (row := (gs.flatMap fun g => tFn.enc (twin g)) ++ spareIV) (cap := some (gs.length + 1)) (fun x hx => by
    obtain ⟨g, hg, rfl⟩ := List.mem_map.1 hx
    exact hw g hg) (by simp; omega) (fun c hc => by cases hc; simp) (by
    rw [List.length_map, List.flatMap_map]
    have hfl : (gs.flatMap fun g => tFn.enc (twin g)).length = gs.length * 8 := flatMap_len _ 8 (fun _ => rfl) gs
    refine cut_mk ?_ (by rw [hfl]; rfl)
    rw [List.drop_zero, List.take_append_of_le_length (by rw [hfl]; exact Nat.le_refl _), List.take_of_length_le (by rw [hfl]; exact Nat.le_refl _)])
  rwa [List.length_map] at this
end Go.EX

set_option maxRecDepth 100000
set_option linter.unusedVariables false
set_option linter.unusedSimpArgs false
namespace Go.EX
def twIV {α : Type} (t : Ty α) (sp : α) (xs : List α) : IV := .slice (t.row (xs ++ [sp])) 0 xs.length (some (xs.length + 1))
theorem ba_beq (a : ByteArray) : (a == a) = true := by
  cases a with | mk d => exact (beq_self_eq_true d : (d == d) = true)
theorem left320 {iv : IV} {xs : List Cap} (hr : Reads tCap iv xs) : run9 320 [.imm (twIV tCap sCap xs), .imm iv] [] = some (avb true, []) := by
  have hlen := reads_len hr
  have hb := hr.2.1
  have loop : ∃ e s', den code9 (extInsert 766) (.loop [0, 1, 5] x320L1) ⟨0, [(0, .imm (twIV tCap sCap xs)), (1, .imm iv), (5, int64 0)], []⟩ = some (e, s') ∧ e ≠ .normal ∧
      (e = .exit 0 ∧ s' = ⟨0, [(0, .imm (twIV tCap sCap xs)), (1, .imm iv), (5, int64 xs.length), (22, avb false)], []⟩) := by
    refine loop_rule (fun n s => ∃ (i : Nat), i + n = xs.length ∧ s = ⟨0, [(0, .imm (twIV tCap sCap xs)), (1, .imm iv), (5, int64 (i : Nat))], []⟩) _ ?_ xs.length _ ⟨0, by simp, rfl⟩
    rintro n _ ⟨i, hi, rfl⟩
    by_cases hlt : i < xs.length
    · have hlti : (i : Int) < xs.length := by omega
      obtain ⟨row, off, cap, rfl, hc, hcut, hget⟩ := reads_pos hr (List.getElem?_eq_getElem hlt)
      have e1 : IntKind.wrap .i64 ((i : Int) + 1) = (i : Int) + 1 := wrapI64 (by omega) (by omega)
      have hget2 := flat_elem (t := tCap) (xs := xs ++ [sCap]) (i := i) (x := xs[i]) (by rw [List.getElem?_append_left hlt]; exact List.getElem?_eq_getElem hlt)
      generalize xs[i] = v at hget hget2
      rw [show tCap.enc v = [.val (.bool v.up), .val (.int .i64 v.n)] from rfl, show tCap.sz = 2 from rfl] at hget2 hget
      refine ⟨.normal, ⟨0, [(0, .imm (twIV tCap sCap xs)), (1, .imm (.slice row off xs.length cap)), (5, int64 ((i : Int) + 1))], []⟩, ?_, .inl ⟨rfl, n - 1, by omega, i + 1, by omega, rfl⟩⟩
      simp -implicitDefEqProofs [x320L1, hlt, hlti, hget, hget2, e1, twIV, ba_beq]
    · have : i = xs.length := by omega
      subst this
      refine ⟨.exit 0, _, ?_, .inr ⟨by simp, rfl, rfl⟩⟩
      simp -implicitDefEqProofs [x320L1, hlen]
  obtain ⟨e, s', h1, _, rfl, rfl⟩ := loop
  unfold run9
  rw [callW_fun code9 (extInsert 766) (rfl : code9 320 = some x320)]
  have e1 : IntKind.wrap .i64 ((xs.length : Int) + 1) = (xs.length : Int) + 1 := wrapI64 (by omega) (by omega)
  have e2 : (0 : Int) ≤ (xs.length : Int) + 1 := by omega
  have e5 : ((xs.length : Int) + 1).toNat = xs.length + 1 := by omega
  have e6 : (xs.length : Int) < (xs.length : Int) + 1 := by omega
  have e7 : ¬ ((xs.length : Int) + 1 ≤ (xs.length : Int)) := by omega
  have hget2 := flat_elem (t := tCap) (xs := xs ++ [sCap]) (i := xs.length) (x := sCap) (by simp)
  rw [show tCap.enc sCap = [.val (.bool false), .val (.int .i64 7777)] from rfl, show tCap.sz = 2 from rfl] at hget2
  simp only [twIV] at h1 ⊢
  simp -implicitDefEqProofs [x320, hlen, h1, e1, e2, e5, e6, e7, exSlice, hget2]
theorem left321 {iv : IV} {xs : List Const} (hr : Reads tConst iv xs) : run9 321 [.imm (twIV tConst sConst xs), .imm iv] [] = some (avb true, []) := by
  have hlen := reads_len hr
  have hb := hr.2.1
  have loop : ∃ e s', den code9 (extInsert 766) (.loop [0, 1, 5] x321L1) ⟨0, [(0, .imm (twIV tConst sConst xs)), (1, .imm iv), (5, int64 0)], []⟩ = some (e, s') ∧ e ≠ .normal ∧
      (e = .exit 0 ∧ s' = ⟨0, [(0, .imm (twIV tConst sConst xs)), (1, .imm iv), (5, int64 xs.length), (22, avb false)], []⟩) := by
    refine loop_rule (fun n s => ∃ (i : Nat), i + n = xs.length ∧ s = ⟨0, [(0, .imm (twIV tConst sConst xs)), (1, .imm iv), (5, int64 (i : Nat))], []⟩) _ ?_ xs.length _ ⟨0, by simp, rfl⟩
    rintro n _ ⟨i, hi, rfl⟩
    by_cases hlt : i < xs.length
    · have hlti : (i : Int) < xs.length := by omega
      obtain ⟨row, off, cap, rfl, hc, hcut, hget⟩ := reads_pos hr (List.getElem?_eq_getElem hlt)
      have e1 : IntKind.wrap .i64 ((i : Int) + 1) = (i : Int) + 1 := wrapI64 (by omega) (by omega)
      have hget2 := flat_elem (t := tConst) (xs := xs ++ [sConst]) (i := i) (x := xs[i]) (by rw [List.getElem?_append_left hlt]; exact List.getElem?_eq_getElem hlt)
      generalize xs[i] = v at hget hget2
      rw [show tConst.enc v = [.val (.int .u8 v.k), .val (.int .i64 v.n), .val (.string v.s)] from rfl, show tConst.sz = 3 from rfl] at hget2 hget
      refine ⟨.normal, ⟨0, [(0, .imm (twIV tConst sConst xs)), (1, .imm (.slice row off xs.length cap)), (5, int64 ((i : Int) + 1))], []⟩, ?_, .inl ⟨rfl, n - 1, by omega, i + 1, by omega, rfl⟩⟩
      simp -implicitDefEqProofs [x321L1, hlt, hlti, hget, hget2, e1, twIV, ba_beq]
    · have : i = xs.length := by omega
      subst this
      refine ⟨.exit 0, _, ?_, .inr ⟨by simp, rfl, rfl⟩⟩
      simp -implicitDefEqProofs [x321L1, hlen]
  obtain ⟨e, s', h1, _, rfl, rfl⟩ := loop
  unfold run9
  rw [callW_fun code9 (extInsert 766) (rfl : code9 321 = some x321)]
  have e1 : IntKind.wrap .i64 ((xs.length : Int) + 1) = (xs.length : Int) + 1 := wrapI64 (by omega) (by omega)
  have e2 : (0 : Int) ≤ (xs.length : Int) + 1 := by omega
  have e5 : ((xs.length : Int) + 1).toNat = xs.length + 1 := by omega
  have e6 : (xs.length : Int) < (xs.length : Int) + 1 := by omega
  have e7 : ¬ ((xs.length : Int) + 1 ≤ (xs.length : Int)) := by omega
  have hget2 := flat_elem (t := tConst) (xs := xs ++ [sConst]) (i := xs.length) (x := sConst) (by simp)
  rw [show tConst.enc sConst = [.val (.int .u8 0), .val (.int .i64 0), .val (.string ⟨#[115, 112, 97, 114, 101]⟩)] from rfl, show tConst.sz = 3 from rfl] at hget2
  simp only [twIV] at h1 ⊢
  simp -implicitDefEqProofs [x321, hlen, h1, e1, e2, e5, e6, e7, exSlice, hget2]
theorem left327 {iv : IV} {xs : List Ins} (hr : Reads tIns iv xs) : run9 327 [.imm (twIV tIns sIns xs), .imm iv] [] = some (avb true, []) := by
  have hlen := reads_len hr
  have hb := hr.2.1
  have loop : ∃ e s', den code9 (extInsert 766) (.loop [0, 1, 5] x327L1) ⟨0, [(0, .imm (twIV tIns sIns xs)), (1, .imm iv), (5, int64 0)], []⟩ = some (e, s') ∧ e ≠ .normal ∧
      (e = .exit 0 ∧ s' = ⟨0, [(0, .imm (twIV tIns sIns xs)), (1, .imm iv), (5, int64 xs.length), (22, avb false)], []⟩) := by
    refine loop_rule (fun n s => ∃ (i : Nat), i + n = xs.length ∧ s = ⟨0, [(0, .imm (twIV tIns sIns xs)), (1, .imm iv), (5, int64 (i : Nat))], []⟩) _ ?_ xs.length _ ⟨0, by simp, rfl⟩
    rintro n _ ⟨i, hi, rfl⟩
    by_cases hlt : i < xs.length
    · have hlti : (i : Int) < xs.length := by omega
      obtain ⟨row, off, cap, rfl, hc, hcut, hget⟩ := reads_pos hr (List.getElem?_eq_getElem hlt)
      have e1 : IntKind.wrap .i64 ((i : Int) + 1) = (i : Int) + 1 := wrapI64 (by omega) (by omega)
      have hget2 := flat_elem (t := tIns) (xs := xs ++ [sIns]) (i := i) (x := xs[i]) (by rw [List.getElem?_append_left hlt]; exact List.getElem?_eq_getElem hlt)
      generalize xs[i] = v at hget hget2
      rw [show tIns.enc v = [.val (.int .u8 v.op), .val (.int .i64 v.a)] from rfl, show tIns.sz = 2 from rfl] at hget2 hget
      refine ⟨.normal, ⟨0, [(0, .imm (twIV tIns sIns xs)), (1, .imm (.slice row off xs.length cap)), (5, int64 ((i : Int) + 1))], []⟩, ?_, .inl ⟨rfl, n - 1, by omega, i + 1, by omega, rfl⟩⟩
      simp -implicitDefEqProofs [x327L1, hlt, hlti, hget, hget2, e1, twIV, ba_beq]
    · have : i = xs.length := by omega
      subst this
      refine ⟨.exit 0, _, ?_, .inr ⟨by simp, rfl, rfl⟩⟩
      simp -implicitDefEqProofs [x327L1, hlen]
  obtain ⟨e, s', h1, _, rfl, rfl⟩ := loop
  unfold run9
  rw [callW_fun code9 (extInsert 766) (rfl : code9 327 = some x327)]
  have e1 : IntKind.wrap .i64 ((xs.length : Int) + 1) = (xs.length : Int) + 1 := wrapI64 (by omega) (by omega)
  have e2 : (0 : Int) ≤ (xs.length : Int) + 1 := by omega
  have e5 : ((xs.length : Int) + 1).toNat = xs.length + 1 := by omega
  have e6 : (xs.length : Int) < (xs.length : Int) + 1 := by omega
  have e7 : ¬ ((xs.length : Int) + 1 ≤ (xs.length : Int)) := by omega
  have hget2 := flat_elem (t := tIns) (xs := xs ++ [sIns]) (i := xs.length) (x := sIns) (by simp)
  rw [show tIns.enc sIns = [.val (.int .u8 0), .val (.int .i64 7777)] from rfl, show tIns.sz = 2 from rfl] at hget2
  simp only [twIV] at h1 ⊢
  simp -implicitDefEqProofs [x327, hlen, h1, e1, e2, e5, e6, e7, exSlice, hget2]
theorem left328 {iv : IV} {xs : List Int} (hr : Reads (tInt .i64) iv xs) : run9 328 [.imm (twIV (tInt .i64) (7777 : Int) xs), .imm iv] [] = some (avb true, []) := by
  have hlen := reads_len hr
  have hb := hr.2.1
  have loop : ∃ e s', den code9 (extInsert 766) (.loop [0, 1, 5] x328L1) ⟨0, [(0, .imm (twIV (tInt .i64) (7777 : Int) xs)), (1, .imm iv), (5, int64 0)], []⟩ = some (e, s') ∧ e ≠ .normal ∧
      (e = .exit 0 ∧ s' = ⟨0, [(0, .imm (twIV (tInt .i64) (7777 : Int) xs)), (1, .imm iv), (5, int64 xs.length), (22, avb false)], []⟩) := by
    refine loop_rule (fun n s => ∃ (i : Nat), i + n = xs.length ∧ s = ⟨0, [(0, .imm (twIV (tInt .i64) (7777 : Int) xs)), (1, .imm iv), (5, int64 (i : Nat))], []⟩) _ ?_ xs.length _ ⟨0, by simp, rfl⟩
    rintro n _ ⟨i, hi, rfl⟩
    by_cases hlt : i < xs.length
    · have hlti : (i : Int) < xs.length := by omega
      obtain ⟨row, off, cap, rfl, hc, hcut, hget⟩ := reads_pos hr (List.getElem?_eq_getElem hlt)
      have e1 : IntKind.wrap .i64 ((i : Int) + 1) = (i : Int) + 1 := wrapI64 (by omega) (by omega)
      have hget2 := flat_elem (t := (tInt .i64)) (xs := xs ++ [(7777 : Int)]) (i := i) (x := xs[i]) (by rw [List.getElem?_append_left hlt]; exact List.getElem?_eq_getElem hlt)
      generalize xs[i] = v at hget hget2
      rw [show (tInt .i64).enc v = [.val (.int .i64 v)] from rfl, show (tInt .i64).sz = 1 from rfl] at hget2 hget
      simp only [Nat.mul_one] at hget hget2
      replace hget := cut_one hget
      replace hget2 := cut_one hget2
      refine ⟨.normal, ⟨0, [(0, .imm (twIV (tInt .i64) (7777 : Int) xs)), (1, .imm (.slice row off xs.length cap)), (5, int64 ((i : Int) + 1))], []⟩, ?_, .inl ⟨rfl, n - 1, by omega, i + 1, by omega, rfl⟩⟩
      simp -implicitDefEqProofs [x328L1, hlt, hlti, hget, hget2, e1, twIV, ba_beq]
    · have : i = xs.length := by omega
      subst this
      refine ⟨.exit 0, _, ?_, .inr ⟨by simp, rfl, rfl⟩⟩
      simp -implicitDefEqProofs [x328L1, hlen]
  obtain ⟨e, s', h1, _, rfl, rfl⟩ := loop
  unfold run9
  rw [callW_fun code9 (extInsert 766) (rfl : code9 328 = some x328)]
  have e1 : IntKind.wrap .i64 ((xs.length : Int) + 1) = (xs.length : Int) + 1 := wrapI64 (by omega) (by omega)
  have e2 : (0 : Int) ≤ (xs.length : Int) + 1 := by omega
  have e5 : ((xs.length : Int) + 1).toNat = xs.length + 1 := by omega
  have e6 : (xs.length : Int) < (xs.length : Int) + 1 := by omega
  have e7 : ¬ ((xs.length : Int) + 1 ≤ (xs.length : Int)) := by omega
  have hget2 := flat_elem (t := (tInt .i64)) (xs := xs ++ [(7777 : Int)]) (i := xs.length) (x := (7777 : Int)) (by simp)
  rw [show (tInt .i64).enc (7777 : Int) = [.val (.int .i64 7777)] from rfl, show (tInt .i64).sz = 1 from rfl] at hget2
  simp only [Nat.mul_one] at hget2
  replace hget2 := cut_one hget2
  simp only [twIV] at h1 ⊢
  simp -implicitDefEqProofs [x328, hlen, h1, e1, e2, e5, e6, e7, exSlice, hget2]
theorem left326 {iv : IV} {xs : List Handler} (hr : Reads tHandler iv xs) : run9 326 [.imm (twIV tHandler sHand xs), .imm iv] [] = some (avb true, []) := by
  have hlen := reads_len hr
  have hb := hr.2.1
  have loop : ∃ e s', den code9 (extInsert 766) (.loop [0, 1, 5] x326L1) ⟨0, [(0, .imm (twIV tHandler sHand xs)), (1, .imm iv), (5, int64 0)], []⟩ = some (e, s') ∧ e ≠ .normal ∧
      (e = .exit 0 ∧ s' = ⟨0, [(0, .imm (twIV tHandler sHand xs)), (1, .imm iv), (5, int64 xs.length), (22, avb false)], []⟩) := by
    refine loop_rule (fun n s => ∃ (i : Nat), i + n = xs.length ∧ s = ⟨0, [(0, .imm (twIV tHandler sHand xs)), (1, .imm iv), (5, int64 (i : Nat))], []⟩) _ ?_ xs.length _ ⟨0, by simp, rfl⟩
    rintro n _ ⟨i, hi, rfl⟩
    by_cases hlt : i < xs.length
    · have hlti : (i : Int) < xs.length := by omega
      obtain ⟨row, off, cap, rfl, hc, hcut, hget⟩ := reads_pos hr (List.getElem?_eq_getElem hlt)
      have e1 : IntKind.wrap .i64 ((i : Int) + 1) = (i : Int) + 1 := wrapI64 (by omega) (by omega)
      have hget2 := flat_elem (t := tHandler) (xs := xs ++ [sHand]) (i := i) (x := xs[i]) (by rw [List.getElem?_append_left hlt]; exact List.getElem?_eq_getElem hlt)
      generalize xs[i] = v at hget hget2
      rw [show tHandler.enc v = [.val (.int .i64 v.fr), .val (.int .i64 v.to), .val (.int .i64 v.at'), .val (.int .i64 v.deep)] from rfl, show tHandler.sz = 4 from rfl] at hget2 hget
      refine ⟨.normal, ⟨0, [(0, .imm (twIV tHandler sHand xs)), (1, .imm (.slice row off xs.length cap)), (5, int64 ((i : Int) + 1))], []⟩, ?_, .inl ⟨rfl, n - 1, by omega, i + 1, by omega, rfl⟩⟩
      simp -implicitDefEqProofs [x326L1, hlt, hlti, hget, hget2, e1, twIV, ba_beq]
    · have : i = xs.length := by omega
      subst this
      refine ⟨.exit 0, _, ?_, .inr ⟨by simp, rfl, rfl⟩⟩
      simp -implicitDefEqProofs [x326L1, hlen]
  obtain ⟨e, s', h1, _, rfl, rfl⟩ := loop
  unfold run9
  rw [callW_fun code9 (extInsert 766) (rfl : code9 326 = some x326)]
  have e1 : IntKind.wrap .i64 ((xs.length : Int) + 1) = (xs.length : Int) + 1 := wrapI64 (by omega) (by omega)
  have e2 : (0 : Int) ≤ (xs.length : Int) + 1 := by omega
  have e5 : ((xs.length : Int) + 1).toNat = xs.length + 1 := by omega
  have e6 : (xs.length : Int) < (xs.length : Int) + 1 := by omega
  have e7 : ¬ ((xs.length : Int) + 1 ≤ (xs.length : Int)) := by omega
  have hget2 := flat_elem (t := tHandler) (xs := xs ++ [sHand]) (i := xs.length) (x := sHand) (by simp)
  rw [show tHandler.enc sHand = [.val (.int .i64 0), .val (.int .i64 0), .val (.int .i64 7777), .val (.int .i64 0)] from rfl, show tHandler.sz = 4 from rfl] at hget2
  simp only [twIV] at h1 ⊢
  simp -implicitDefEqProofs [x326, hlen, h1, e1, e2, e5, e6, e7, exSlice, hget2]
theorem left324 (f : Fn) : run9 324 [fnAV (twin f), fnAV f] [] = some (avb true, []) := by
  have h1 := left320 f.caps.ok
  have h2 := left321 f.consts.ok
  have h3 := left327 f.code.ok
  have h4 := left328 f.lines.ok
  have h5 := left326 f.handlers.ok
  unfold run9 at *
  rw [callW_fun code9 (extInsert 766) (rfl : code9 324 = some x324)]
  simp only [twIV] at h1 h2 h3 h4 h5
  simp only [fnAV, twin, slT]
  simp -implicitDefEqProofs [x324, h1, h2, h3, h4, h5, frz_flat]
def twProg (ps : List Fn) : IV := .slice ((ps.flatMap fun g => tFn.enc (twin g)) ++ spareIV) 0 ps.length (some (ps.length + 1))
theorem left325 {iv : IV} {xs : List Fn} (hr : Reads tFn iv xs) : run9 325 [.imm (twProg xs), .imm iv] [] = some (avb true, []) := by
  have hlen := reads_len hr
  have hb := hr.2.1
  have hfl : (xs.flatMap fun g => tFn.enc (twin g)) = tFn.row (xs.map twin) := by rw [Ty.row, List.flatMap_map]
  have hrl : (tFn.row (xs.map twin)).length = xs.length * 8 := by rw [row_len, List.length_map]; rfl
  generalize hT : twProg xs = T
  have loop : ∃ e s', den code9 (extInsert 766) (.loop [0, 1, 5] x325L1) ⟨0, [(0, .imm T), (1, .imm iv), (5, int64 0)], []⟩ = some (e, s') ∧ e ≠ .normal ∧
      (e = .exit 0 ∧ s' = ⟨0, [(0, .imm T), (1, .imm iv), (5, int64 xs.length), (22, avb false)], []⟩) := by
    refine loop_rule (fun n s => ∃ (i : Nat), i + n = xs.length ∧ s = ⟨0, [(0, .imm T), (1, .imm iv), (5, int64 (i : Nat))], []⟩) _ ?_ xs.length _ ⟨0, by simp, rfl⟩
    rintro n _ ⟨i, hi, rfl⟩
    by_cases hlt : i < xs.length
    · have hlti : (i : Int) < xs.length := by omega
      obtain ⟨row, off, cap, rfl, hc, hcut, hget⟩ := reads_pos hr (List.getElem?_eq_getElem hlt)
      have e1 : IntKind.wrap .i64 ((i : Int) + 1) = (i : Int) + 1 := wrapI64 (by omega) (by omega)
      have hget2 := flat_elem (t := tFn) (xs := xs.map twin) (i := i) (x := twin xs[i]) (by rw [List.getElem?_map, List.getElem?_eq_getElem hlt]; rfl)
      have hlo := left324 xs[i]
      generalize xs[i] = o at hget hget2 hlo
      have hget3 : cut (tFn.row (xs.map twin) ++ spareIV) (i * 8) 8 = some (tFn.enc (twin o)) := by
        obtain ⟨h1, h2⟩ := cut_some hget2
        refine cut_mk ?_ (tFn.len _)
        have hle : i * 8 + 8 ≤ (tFn.row (xs.map twin)).length := by rw [hrl]; omega
        rw [List.drop_append_of_le_length (by omega), List.take_append_of_le_length (by rw [List.length_drop]; omega)]
        exact h1.symm
      rw [show tFn.enc (twin o) = [.val (.string (twin o).name), .val (.int .i64 (twin o).params), .val (.int .i64 (twin o).locals), (twin o).caps.iv, (twin o).consts.iv, (twin o).code.iv, (twin o).lines.iv, (twin o).handlers.iv] from rfl] at hget3
      simp only [tFn] at hget
      unfold run9 at hlo
      simp only [fnAV] at hlo
      refine ⟨.normal, ⟨0, [(0, .imm T), (1, .imm (.slice row off xs.length cap)), (5, int64 ((i : Int) + 1))], []⟩, ?_, .inl ⟨rfl, n - 1, by omega, i + 1, by omega, rfl⟩⟩
      subst hT
      simp only [twProg, hfl]
      generalize tFn.row (xs.map twin) ++ spareIV = R at *
      simp -implicitDefEqProofs [x325L1, hlt, hlti, hget, hget3, e1, hlo]
    · have : i = xs.length := by omega
      subst this
      refine ⟨.exit 0, _, ?_, .inr ⟨by simp, rfl, rfl⟩⟩
      simp -implicitDefEqProofs [x325L1, hlen]
  obtain ⟨e, s', h1, _, rfl, rfl⟩ := loop
  have e1 : IntKind.wrap .i64 ((xs.length : Int) + 1) = (xs.length : Int) + 1 := wrapI64 (by omega) (by omega)
  have e2 : (0 : Int) ≤ (xs.length : Int) + 1 := by omega
  have e5 : ((xs.length : Int) + 1).toNat = xs.length + 1 := by omega
  have e6 : (xs.length : Int) < (xs.length : Int) + 1 := by omega
  have e7 : ¬ ((xs.length : Int) + 1 ≤ (xs.length : Int)) := by omega
  have hget2 : cut (tFn.row (xs.map twin) ++ spareIV) (xs.length * 8) 8 = some [.val (.string ⟨#[115, 112, 97, 114, 101]⟩), .val (.int .i64 0), .val (.int .i64 0), .val (.slice none 0 0), .val (.slice none 0 0), .val (.slice none 0 0), .val (.slice none 0 0), .val (.slice none 0 0)] := by
    refine cut_mk ?_ rfl
    rw [List.drop_append, List.drop_eq_nil_of_le (by omega), hrl, Nat.sub_self]
    rfl
  unfold run9
  rw [callW_fun code9 (extInsert 766) (rfl : code9 325 = some x325)]
  subst hT
  simp only [twProg, hfl] at h1 ⊢
  generalize tFn.row (xs.map twin) ++ spareIV = R at *
  simp -implicitDefEqProofs [x325, hlen, h1, e1, e2, e5, e6, e7, exSlice, hget2]
theorem left331 {iv : IV} {xs : List Fn} (hr : Reads tFn iv xs) : run9 331 [.imm (twProg xs), .imm iv] [] = some (avb true, []) := by
  have h := left325 hr
  unfold run9 at *
  rw [callW_fun code9 (extInsert 766) (rfl : code9 331 = some x331)]
  generalize twProg xs = T at *
  simp -implicitDefEqProofs [x331, h]
theorem twin_view {iv : IV} {xs : List Fn} (hr : Reads tFn iv xs) (hl : xs.length ≤ 1048576) (hs : ∀ f ∈ xs, Small f) :
    ∃ mc, run9 374 [.imm iv] [] = some (.osl 0 0 8 xs.length (some (xs.length + 1)), mc) ∧ frz mc (.osl 0 0 8 xs.length (some (xs.length + 1))) = some (.imm (twProg xs)) := by
  obtain ⟨o, ho, h⟩ := twin374 hr hl hs
  refine ⟨_, h, ?_⟩
  have hz := frz_twins xs
  rcases ho with rfl | ⟨cs, rfl, hcs⟩
  · have e : frz (.rich (twRow 0 xs ++ spareFn) :: xs.map lobj) (.osl 0 0 8 xs.length (some (xs.length + 1))) = (((twRow 0 xs ++ spareFn).mapM (frzV (.rich (twRow 0 xs ++ spareFn) :: xs.map lobj) 19)).map fun row => IV.slice row 0 xs.length (some (xs.length + 1))).map .imm := rfl
    rw [e, hz]; rfl
  · have hnil : xs = [] := by
      have h1 := congrArg AV.refs.refsL hcs
      rw [refsL_app, twRow_refs, spare_refs, List.append_nil, ← rowObj_refs (.inr ⟨cs, rfl, rfl⟩ : RowObj (cs.map .imm) (.flat cs false))] at h1
      cases xs with
      | nil => rfl
      | cons f r => simp [AObj.refs, List.range_succ_eq_map] at h1
    subst hnil
    have hcs2 : cs = spareIV := by
      have h2 : cs.map AV.imm = spareIV.map AV.imm := by rw [← hcs]; rfl
      have hinj : Function.Injective AV.imm := fun a b h => by cases h; rfl
      exact (List.map_inj_right (fun a b h => hinj h)).1 h2
    subst hcs2
    rfl
theorem alike_twin (f : Fn) : Alike f (twin f) := ⟨rfl, rfl, rfl, rfl, rfl, rfl, rfl, rfl, rfl⟩
theorem alikes_twin (ps : List Fn) : Alikes ps (ps.map twin) := ⟨by simp, fun k f g hf hg => by
  simp only [List.getElem?_map, hf, Option.map_some, Option.some.injEq] at hg
  subst hg
  exact alike_twin f⟩
end Go.EX

