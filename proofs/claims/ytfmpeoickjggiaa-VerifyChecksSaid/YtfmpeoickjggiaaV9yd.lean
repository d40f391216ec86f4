/-
  EX: law 09: VerifyNames.
-/
import Derived.Test.YtfmpeoickjggiaaV9yc
import Derived.Test.YtfmpeoickjggiaaL9b
set_option linter.unusedVariables false
set_option linter.unusedSimpArgs false
namespace Go.EX

/-- A twin's list. -/
def slT {α : Type} (t : Ty α) (s : Sl t) (sp : α) (h : s.xs.length ≤ 140737488355328 := by assumption) : Sl t :=
  ⟨.slice (t.row (s.xs ++ [sp])) 0 s.xs.length (some (s.xs.length + 1)), s.xs, s.ok.1, s.ok.2.1, .inr ⟨_, 0, _, rfl, fun c hc => by cases hc; omega, by
    have := flatMap_cut (t := t) t.len (s.xs ++ [sp]) 0 s.xs.length (by simp)
    rw [Nat.zero_mul] at this
    rw [Ty.row, this]; simp⟩⟩

def twin (f : Fn) : Fn := ⟨f.name, f.params, f.locals, slT tCap f.caps sCap f.caps.ok.2.1, slT tConst f.consts sConst f.consts.ok.2.1, slT tIns f.code sIns f.code.ok.2.1, slT (tInt .i64) f.lines 7777 f.lines.ok.2.1, slT tHandler f.handlers sHand f.handlers.ok.2.1⟩

def clean (f : Fn) : Fn := { f with name := .empty, lines := ⟨.slice (rowI (List.replicate f.lines.xs.length 0)) 0 f.lines.xs.length none, List.replicate f.lines.xs.length 0, by
  have := reads_row (tInt .i64) (List.replicate f.lines.xs.length 0) (cap := none) (fun x hx => by rw [(List.mem_replicate.1 hx).2]; rfl) (by simp; exact f.lines.ok.2.1) (fun c h => by cases h)
  rw [List.length_replicate] at this
  exact this⟩ }

theorem twRow_app2 : ∀ (a : List Fn) (j : Nat) (b : List Fn), twRow j (a ++ b) = twRow j a ++ twRow (j + a.length) b
  | [], j, b => by simp [twRow]
  | f :: r, j, b => by simp only [List.cons_append, twRow, twRow_app2 r, List.append_assoc, List.length_cons]; congr 3; omega

theorem spare_refs : AV.refs.refsL spareFn = [] := rfl

set_option maxRecDepth 100000 in
theorem names_loop (pv : IV) (xs : List Fn) (hl : xs.length ≤ 1048576) (hs : ∀ f ∈ xs, Small f) {st : St} (hst : st.tidy [0, 3, 4] = ⟨0, [(0, .imm pv), (3, .osl 0 0 8 xs.length (some (xs.length + 1))), (4, int64 0)], .rich (twRow 0 xs ++ spareFn) :: xs.map lobj⟩) :
    ∃ e s', den code9 (extInsert 766) (.loop [0, 3, 4] x464L2) st = some (e, s') ∧ e ≠ .normal ∧
      ((e = .ret ∧ ∃ mem, s' = ⟨0, [(2, avb true)], mem⟩) ∨
       (e = .exit 0 ∧ (∀ f ∈ xs, (∀ x ∈ f.lines.xs, 0 ≤ x) ∧ f.name.size ≤ 4096) ∧ s' = ⟨0, [(0, .imm pv), (3, .osl 0 0 8 xs.length (some (xs.length + 1))), (4, int64 xs.length), (24, avb false)], .rich (twRow 0 (xs.map clean) ++ spareFn) :: (xs.map clean).map lobj⟩)) := by
  have hrows : ∀ gs : List Fn, gs.length = xs.length → Rows1 (.rich (twRow 0 gs ++ spareFn)) (gs.map lobj) := fun gs hg => ⟨by rw [AObj.refs, refsL_app, twRow_refs, spare_refs, List.append_nil, List.length_map], fun l hl => by
    obtain ⟨f, _, rfl⟩ := List.mem_map.1 hl
    exact ⟨_, _, rfl⟩⟩
  refine loop_rule (fun m s => ∃ i, i + m = xs.length ∧ (∀ f ∈ xs.take i, (∀ x ∈ f.lines.xs, 0 ≤ x) ∧ f.name.size ≤ 4096) ∧ s.tidy [0, 3, 4] = ⟨0, [(0, .imm pv), (3, .osl 0 0 8 xs.length (some (xs.length + 1))), (4, int64 (i : Nat))], .rich (twRow 0 ((xs.take i).map clean ++ xs.drop i) ++ spareFn) :: ((xs.take i).map clean ++ xs.drop i).map lobj⟩) _ ?_ xs.length _ ⟨0, by simp, by simp, by simpa using hst⟩
  clear hst
  rintro m s ⟨i, him, hall, hst⟩
  rw [hst]
  by_cases hlt : i < xs.length
  · have hlt' : (i : Int) < xs.length := by omega
    have e1 : IntKind.wrap .i64 ((i : Int) + 1) = (i : Int) + 1 := wrapI64 (by omega) (by omega)
    have hdrop : xs.drop i = xs[i] :: xs.drop (i + 1) := List.drop_eq_getElem_cons hlt
    have htake : xs.take (i + 1) = xs.take i ++ [xs[i]] := by rw [List.take_add_one, List.getElem?_eq_getElem hlt]; rfl
    have hsm := hs _ (List.getElem_mem hlt)
    have hCl : ((xs.take i).map clean).length = i := by simp; omega
    have hRl : (xs.drop (i + 1)).length + (i + 1) = xs.length := by simp; omega
    clear hst
    rw [hdrop]
    generalize hxi : xs[i] = f at htake hdrop hsm ⊢
    generalize hC : (xs.take i).map clean = C at hCl ⊢
    generalize hR : xs.drop (i + 1) = R at hRl ⊢
    have hXl : (twRow 0 C).length = i * 8 := by rw [twRow_len, hCl]
    have hrow : ∀ g, twRow 0 (C ++ g :: R) ++ spareFn = twRow 0 C ++ (twCells (i + 1) g ++ (twRow (i + 1) R ++ spareFn)) := by
      intro g
      rw [twRow_app2, Nat.zero_add, hCl, twRow, List.append_assoc, List.append_assoc]
    have hcell : ∀ g k, k < 8 → (twRow 0 (C ++ g :: R) ++ spareFn)[i * 8 + k]? = (twCells (i + 1) g)[k]? := by
      intro g k hk
      rw [hrow, List.getElem?_append_right (by omega), hXl, Nat.add_sub_cancel_left, List.getElem?_append_left (by simp [twCells]; omega)]
    have hc6 := hcell f 6 (by omega)
    have hc0 := hcell f 0 (by omega)
    rw [Nat.add_zero] at hc0
    simp only [twCells, List.getElem?_cons_succ, List.getElem?_cons_zero] at hc6 hc0
    have hset : (twRow 0 (C ++ f :: R) ++ spareFn).set (i * 8) (.imm (.val (.string .empty))) = twRow 0 (C ++ clean f :: R) ++ spareFn := by
      rw [hrow, hrow, ← hXl]
      simp only [twCells, List.cons_append, List.set_append_right, Nat.le_refl, Nat.sub_self, List.set_cons_zero]
      simp [clean]
    have hlen8 : (twRow 0 (C ++ f :: R) ++ spareFn).length = (xs.length + 1) * 8 := by
      rw [List.length_append, twRow_len]; simp [spareFn, hCl]; omega
    have hfit : i * 8 + 1 ≤ (twRow 0 (C ++ f :: R) ++ spareFn).length := by rw [hlen8]; omega
    have hmapl : ∀ g, (C ++ g :: R).map lobj = C.map lobj ++ lobj g :: R.map lobj := fun g => by simp
    have hrf := hrows (C ++ f :: R) (by simp; omega)
    have hrefs := hrf.refs
    rw [AObj.refs] at hrefs
    have hnR : ((C ++ f :: R).map lobj).length = xs.length := by simp; omega
    rw [hnR] at hrefs
    obtain ⟨e, s', h1, _, h2⟩ := lines_loop pv xs.length i (twRow 0 (C ++ f :: R) ++ spareFn) (C.map lobj) (R.map lobj) f.lines.xs (by simpa using hCl) hl (by simp; omega) hsm.lines hc6 hrefs
      (fun l hl => by obtain ⟨f, _, rfl⟩ := List.mem_map.1 hl; exact ⟨_, _, rfl⟩) (fun l hl => by obtain ⟨f, _, rfl⟩ := List.mem_map.1 hl; exact ⟨_, _, rfl⟩)
      (st := ⟨0, [(0, .imm pv), (3, .osl 0 0 8 xs.length (some (xs.length + 1))), (4, int64 (i : Nat)), (5, int64 0)], .rich (twRow 0 (C ++ f :: R) ++ spareFn) :: (C ++ f :: R).map lobj⟩)
      (by rw [tidy_rows0 hrf (by rw [hnR]; omega) _ _ (by simp) (fun f hf => by simp [hf]), hmapl]; rfl)
    have hclf : lobj (clean f) = .flat (rowI (List.replicate f.lines.xs.length 0 ++ [7777])) false := rfl
    have htidy : ∀ env : Env, env.keep [0, 3, 4] = [(0, .imm pv), (3, .osl 0 0 8 xs.length (some (xs.length + 1))), (4, int64 ((i + 1 : Nat) : Int))] → St.tidy ⟨0, env, .rich (twRow 0 (C ++ clean f :: R) ++ spareFn) :: (C.map lobj ++ lobj (clean f) :: R.map lobj)⟩ [0, 3, 4] =
        ⟨0, [(0, .imm pv), (3, .osl 0 0 8 xs.length (some (xs.length + 1))), (4, int64 ((i + 1 : Nat) : Int))], .rich (twRow 0 ((xs.take i ++ [f]).map clean ++ R) ++ spareFn) :: ((xs.take i ++ [f]).map clean ++ R).map lobj⟩ := by
      intro env he
      have hCR : (xs.take i ++ [f]).map clean ++ R = C ++ clean f :: R := by rw [List.map_append, hC]; simp
      rw [← hmapl, tidy_rows0 (hrows _ (by simp; omega)) (by simp; omega) _ _ (by rw [he]; simp) (fun f hf => by rw [he]; simp [hf]), he, hCR]
    generalize hcs : twRow 0 (C ++ f :: R) ++ spareFn = cells at hc6 hc0 hset hfit h1 h2 ⊢
    generalize hcs2 : twRow 0 (C ++ clean f :: R) ++ spareFn = cells2 at hset htidy ⊢
    generalize (C ++ f :: R).map lobj = LOS at h1 ⊢
    rcases h2 with ⟨rfl, mem, rfl⟩ | ⟨rfl, hpos, rfl⟩
    · refine ⟨.ret, ⟨0, [(2, avb true)], mem⟩, ?_, .inr ⟨by simp, .inl ⟨rfl, mem, rfl⟩⟩⟩
      simp -implicitDefEqProofs [x464L2, hlt', hlt, h1]
    · by_cases hnm : 4096 < (f.name.size : Int)
      · refine ⟨.ret, ⟨0, [(2, avb true)], .rich cells :: (C.map lobj ++ .flat (rowI (List.replicate f.lines.xs.length 0 ++ [7777])) false :: R.map lobj)⟩, ?_, .inr ⟨by simp, .inl ⟨rfl, _, rfl⟩⟩⟩
        generalize C.map lobj ++ .flat (rowI (List.replicate f.lines.xs.length 0 ++ [7777])) false :: R.map lobj = LOS2 at h1 ⊢
        simp -implicitDefEqProofs [x464L2, hlt', hlt, h1, hc0, hnm]
      · refine ⟨.normal, ⟨0, [(0, .imm pv), (3, .osl 0 0 8 xs.length (some (xs.length + 1))), (4, int64 ((i : Int) + 1))], .rich cells2 :: (C.map lobj ++ lobj (clean f) :: R.map lobj)⟩, ?_, .inl ⟨rfl, m - 1, by omega, i + 1, by omega, ?_, ?_⟩⟩
        · rw [hclf]
          generalize C.map lobj ++ .flat (rowI (List.replicate f.lines.xs.length 0 ++ [7777])) false :: R.map lobj = LOS2 at h1 ⊢
          simp -implicitDefEqProofs [x464L2, hlt', hlt, h1, hc0, hnm, hset, hfit, setAll, e1]
        · rw [htake]
          intro g hg
          rw [List.mem_append, List.mem_singleton] at hg
          rcases hg with hg | rfl
          · exact hall g hg
          · exact ⟨hpos, by omega⟩
        · rw [htake, hR, htidy _ (by simp)]
  · have hi : i = xs.length := by omega
    subst hi
    rw [List.take_length, List.drop_length, List.append_nil] at *
    refine ⟨.exit 0, ⟨0, [(0, .imm pv), (3, .osl 0 0 8 xs.length (some (xs.length + 1))), (4, int64 xs.length), (24, avb false)], .rich (twRow 0 (xs.map clean) ++ spareFn) :: (xs.map clean).map lobj⟩, ?_, .inr ⟨by simp, .inr ⟨rfl, hall, rfl⟩⟩⟩
    simp -implicitDefEqProofs [x464L2, -List.map_map]

end Go.EX
