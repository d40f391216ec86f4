/-
  EX: law 09: VerifyNames holds.
-/
import Derived.Test.YtfmpeoickjggiaaV9yd
set_option linter.unusedVariables false
set_option linter.unusedSimpArgs false
namespace Go.EX

theorem mapM_app {α β : Type} (f : α → Option β) : ∀ (a b : List α) {x y : List β}, a.mapM f = some x → b.mapM f = some y → (a ++ b).mapM f = some (x ++ y) := by
  intro a b x y h1 h2
  rw [List.mapM_append, h1, h2]
  rfl

def spareIV : List IV := [.val (.string ⟨#[115, 112, 97, 114, 101]⟩), .val (.int .i64 0), .val (.int .i64 0), .val (.slice none 0 0), .val (.slice none 0 0), .val (.slice none 0 0), .val (.slice none 0 0), .val (.slice none 0 0)]

theorem frz_row (m : Mem) : ∀ (gs : List Fn) (j : Nat), (∀ (k : Nat) (g : Fn), gs[k]? = some g → m[j + k + 1]? = some (lobj g)) → (twRow j gs).mapM (frzV m 19) = some (gs.flatMap fun g => tFn.enc (twin g))
  | [], j, _ => rfl
  | g :: r, j, h => by
    rw [twRow, List.flatMap_cons]
    refine mapM_app _ _ _ ?_ (frz_row m r (j + 1) fun k g hk => by rw [show j + 1 + k + 1 = j + (k + 1) + 1 by omega]; exact h (k + 1) g (by simpa using hk))
    have h0 := h 0 g rfl
    rw [Nat.add_zero] at h0
    simp only [twCells, List.mapM_cons, List.mapM_nil, frzV, h0, lobj]
    rfl

theorem frz_spare (m : Mem) : spareFn.mapM (frzV m 19) = some spareIV := rfl

theorem frz_twins (gs : List Fn) : (twRow 0 gs ++ spareFn).mapM (frzV (.rich (twRow 0 gs ++ spareFn) :: gs.map lobj) 19) = some ((gs.flatMap fun g => tFn.enc (twin g)) ++ spareIV) := by
  refine mapM_app _ _ _ (frz_row _ _ _ fun k g hk => ?_) (frz_spare _)
  rw [Nat.zero_add, List.getElem?_cons_succ, List.getElem?_map, hk]
  rfl

theorem reads_twins (gs : List Fn) (hw : ∀ g ∈ gs, tFn.wf g) (hl : gs.length ≤ 1048576) : Reads tFn (.slice ((gs.flatMap fun g => tFn.enc (twin g)) ++ spareIV) 0 gs.length (some (gs.length + 1))) (gs.map twin) := by
  have := reads_new (t := tFn) (xs := gs.map twin) (row := (gs.flatMap fun g => tFn.enc (twin g)) ++ spareIV) (cap := some (gs.length + 1)) (fun x hx => by
    obtain ⟨g, hg, rfl⟩ := List.mem_map.1 hx
    exact hw g hg) (by simp; omega) (fun c hc => by cases hc; simp) (by
    rw [List.length_map, List.flatMap_map]
    have hfl : (gs.flatMap fun g => tFn.enc (twin g)).length = gs.length * 8 := flatMap_len _ 8 (fun _ => rfl) gs
    refine cut_mk ?_ (by rw [hfl]; rfl)
    rw [List.drop_zero, List.take_append_of_le_length (by rw [hfl]; exact Nat.le_refl _), List.take_of_length_le (by rw [hfl]; exact Nat.le_refl _)])
  rwa [List.length_map] at this

theorem alike_clean {f : Fn} (h1 : ∀ x ∈ f.lines.xs, 0 ≤ x) (h2 : f.name.size ≤ 4096) : Alike f (twin (clean f)) := by
  refine ⟨rfl, rfl, rfl, rfl, rfl, rfl, by simp [twin, clean, slT], ?_, ?_⟩
  · have : (twin (clean f)).name.size = 0 := rfl
    rw [this]
    simp; omega
  · have e1 : (f.lines.xs.any fun x => decide (x < 0)) = false := by
      rw [List.any_eq_false]
      intro x hx; have := h1 x hx; simp; omega
    have e2 : ((twin (clean f)).lines.xs.any fun x => decide (x < 0)) = false := by
      rw [List.any_eq_false]
      intro x hx
      have : x ∈ List.replicate f.lines.xs.length (0 : Int) := hx
      rw [(List.mem_replicate.1 this).2]; simp
    rw [e1, e2]

theorem names_loop0 (pv : IV) (cs : List IV) : ∃ e s', den code9 (extInsert 766) (.loop [0, 3, 4] x464L2) ⟨0, [(0, .imm pv), (3, .osl 0 0 8 0 (some 1)), (4, int64 0)], [.flat cs false]⟩ = some (e, s') ∧ e ≠ .normal ∧
    (e = .exit 0 ∧ s' = ⟨0, [(0, .imm pv), (3, .osl 0 0 8 0 (some 1)), (4, int64 0), (24, avb false)], [.flat cs false]⟩) := by
  refine loop_rule (fun _ s => s.tidy [0, 3, 4] = ⟨0, [(0, .imm pv), (3, .osl 0 0 8 0 (some 1)), (4, int64 0)], [.flat cs false]⟩) _ ?_ 0 _ (by simp -implicitDefEqProofs [])
  rintro n s hst
  rw [hst]
  refine ⟨.exit 0, ⟨0, [(0, .imm pv), (3, .osl 0 0 8 0 (some 1)), (4, int64 0), (24, avb false)], [.flat cs false]⟩, ?_, .inr ⟨by simp, rfl, rfl⟩⟩
  simp -implicitDefEqProofs [x464L2]

set_option maxRecDepth 100000 in
/-- VerifyNames holds. -/
theorem verifyNames_ok {pv : IV} {ps : List Fn} (hp : Reads tFn pv ps) : ∃ m, run9 464 [.imm pv] [] = some (avb true, m) := by
  have ha := alive9
  obtain ⟨g, hg, hsm⟩ := great9 hp
  have hck := check_spec9 hp
  cases g with
  | true =>
    refine ⟨[], ?_⟩
    unfold run9 at *
    rw [callW_fun code9 (extInsert 766) (rfl : code9 464 = some x464)]
    simp -implicitDefEqProofs [x464, ha, hg, frz_flat]
  | false =>
    obtain ⟨hl, hs⟩ := small_of hp.2.1 hp.1 (hsm rfl)
    obtain ⟨o, ho, ht⟩ := twin374 hp hl hs
    have hob := obj_ren_some o
    rcases ho with rfl | ⟨cs, rfl, hcs⟩
    · have hrows : Rows1 (.rich (twRow 0 ps ++ spareFn)) (ps.map lobj) := ⟨by rw [AObj.refs, refsL_app, twRow_refs, spare_refs, List.append_nil, List.length_map], fun l hl => by
        obtain ⟨f, _, rfl⟩ := List.mem_map.1 hl
        exact ⟨_, _, rfl⟩⟩
      obtain ⟨e, s', h1, _, h2⟩ := names_loop pv ps hl hs (st := ⟨0, [(0, .imm pv), (3, .osl 0 0 8 ps.length (some (ps.length + 1))), (4, int64 0)], .rich (twRow 0 ps ++ spareFn) :: ps.map lobj⟩)
        (by rw [tidy_rows0 hrows (by simp; omega) _ _ (by simp) (fun f hf => by simp [hf])]; simp)
      have hfz := frz_twins (ps.map clean)
      have hmr := map_ren_some (ps.map lobj)
      have hlc : (ps.map clean).length = ps.length := by simp
      have hrd := reads_twins (ps.map clean) (fun g hg => by
        obtain ⟨f, hf, rfl⟩ := List.mem_map.1 hg
        have := hp.1 f hf
        exact ⟨by show (0 : Nat) ≤ _; omega, this.2.1, this.2.2⟩) (by omega)
      rw [hlc] at hrd
      have hck2 := check_spec9 hrd
      generalize twRow 0 ps ++ spareFn = cells at h1 ht hob
      generalize ps.map lobj = los at h1 ht hmr
      unfold run9 at *
      rcases h2 with ⟨rfl, mem, rfl⟩ | ⟨rfl, hall, rfl⟩
      · refine ⟨[], ?_⟩
        rw [callW_fun code9 (extInsert 766) (rfl : code9 464 = some x464)]
        cases mem with
        | nil => simp -implicitDefEqProofs [x464, ha, hg, ht, hmr, hob, h1, frz_flat, -AObj.ren]
        | cons q r => simp -implicitDefEqProofs [x464, ha, hg, ht, hmr, hob, h1, frz_flat, -AObj.ren]
      · have hal : Alikes ps ((ps.map clean).map twin) := ⟨by simp, fun k f g hf hg => by
          simp only [List.getElem?_map, hf, Option.map_some, Option.some.injEq] at hg
          subst hg
          have := hall f (List.mem_of_getElem? hf)
          exact alike_clean this.1 this.2⟩
        rw [← checkR_alike hal] at hck2
        generalize twRow 0 (ps.map clean) ++ spareFn = cells2 at h1 hfz
        generalize (ps.map clean).map lobj = los2 at h1 hfz
        generalize checkR ps = R at hck hck2
        generalize (ps.map clean).flatMap (fun g => tFn.enc (twin g)) ++ spareIV = row at hfz hck2
        refine ⟨[], ?_⟩
        rw [callW_fun code9 (extInsert 766) (rfl : code9 464 = some x464)]
        simp -implicitDefEqProofs [x464, ha, hg, ht, hmr, hob, h1, hck, hck2, hfz, frz_flat, -AObj.ren]
    · have hnil : ps = [] := by
        have h1 := congrArg AV.refs.refsL hcs
        rw [refsL_app, twRow_refs, spare_refs, List.append_nil, ← rowObj_refs (.inr ⟨cs, rfl, rfl⟩ : RowObj (cs.map .imm) (.flat cs false))] at h1
        cases ps with
        | nil => rfl
        | cons f r => simp [AObj.refs, List.range_succ_eq_map] at h1
      subst hnil
      obtain ⟨e, s', h1, _, rfl, rfl⟩ := names_loop0 pv cs
      have hrd : Reads tFn (.slice cs 0 0 (some 1)) [] := ⟨fun x hx => (by cases hx), by simp, .inr ⟨cs, 0, some 1, rfl, fun c hc => (by cases hc; simp), by simp⟩⟩
      have hck2 := check_spec9 hrd
      unfold run9 at *
      refine ⟨[], ?_⟩
      rw [callW_fun code9 (extInsert 766) (rfl : code9 464 = some x464)]
      simp only [List.length_nil, List.map_nil] at ht
      generalize checkR [] = R at hck hck2
      simp -implicitDefEqProofs [x464, ha, hg, ht, h1, hck, hck2, frz_flat]

end Go.EX
