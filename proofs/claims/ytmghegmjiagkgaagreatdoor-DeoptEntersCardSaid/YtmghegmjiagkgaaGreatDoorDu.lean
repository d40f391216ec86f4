/-
  EX: DeoptEnters is true.
-/
import Derived.Test.YtmghegmjiagkgaaGreatDoorDt
import Derived.Test.YtmghegmjiagkgaaGreatDoorDm
import Derived.Test.YtmghegmjiagkgaaGreatDoorDs
set_option linter.unusedVariables false
set_option linter.unusedSimpArgs false
namespace Go.EX

theorem enterGo_all (p : Val → Prop) : ∀ (rest : List (Int × Val)) (seen : List Int) (regs out : List Val), (∀ q ∈ rest, p q.2) → (∀ x ∈ regs, p x) → enterGo seen rest regs = some out → ∀ x ∈ out, p x
  | [], seen, regs, out, _, h2, h => by cases h; exact h2
  | (r, v) :: rest, seen, regs, out, h1, h2, h => by
    rw [enterGo] at h
    split at h
    · cases h
    · split at h
      · cases h
      · split at h
        · cases h
        · refine enterGo_all p rest _ _ out (fun q hq => h1 q (List.mem_cons_of_mem _ hq)) (fun x hx => ?_) h
          rcases List.mem_or_eq_of_mem_set hx with hx | rfl
          · exact h2 x hx
          · exact h1 (r, x) (List.mem_cons_self ..)



theorem enterGo_len : ∀ (rest : List (Int × Val)) (seen : List Int) (regs out : List Val), enterGo seen rest regs = some out → out.length = regs.length
  | [], seen, regs, out, h => by simp only [enterGo, Option.some.injEq] at h; rw [h]
  | (r, v) :: rest, seen, regs, out, h => by
    simp only [enterGo] at h
    split at h
    · cases h
    · split at h
      · cases h
      · split at h
        · cases h
        · rw [enterGo_len rest _ _ out h, List.length_set]

theorem enterOf_some {N at' : Int} {entries : List Entry} {slots vs : List Val} {a : Int} (hs : ∀ x ∈ slots, tVal.wf x) (h : enterOf N entries at' slots = some (vs, a)) : vs.length ≤ 4096 ∧ (∀ x ∈ vs, tVal.wf x) := by
  unfold enterOf at h
  repeat' split at h
  all_goals first | (cases h; done) | skip
  rename_i c1 c2 c3 c4 _ e he c5
  simp only [Option.map_eq_some_iff, Prod.mk.injEq] at h
  obtain ⟨ws, h1, rfl, _⟩ := h
  refine ⟨?_, ?_⟩
  · rw [enterGo_len _ _ _ _ h1, List.length_replicate]; omega
  · refine enterGo_all tVal.wf _ _ _ _ (fun q hq => ?_) (fun x hx => ?_) h1
    · exact hs _ (List.of_mem_zip hq).2
    · rw [List.eq_of_mem_replicate hx]; exact ⟨wfU8.2 (by simp), wfI64.2 (by simp)⟩

section
variable {code : Nat → Option XFun} {ext : Calls'}

set_option maxHeartbeats 8000000 in
theorem enters_ok (h : ∀ g f, codeD g = some f → code g = some f) (N at' : Int) {ev cv xv sv : IV} {entries : List Entry} {insns : List RegIns} {exits : List Exit1} {slots : List Val} (hE : Reads tEntry ev entries) (hC : Reads tRegIns cv insns) (hX : Reads tExit xv exits) (hr : Reads tVal sv slots) :
    ∃ mo : Mem, callW code ext 494 [.agg [int64 N, .imm ev, .imm cv, .imm xv], int64 at', .imm sv] [] = some (avb true, mo) := by
  apply of_fst
  have hlv := lives_ok (ext := ext) h
  have hel := reads_len hE
  have hsl := reads_len hr
  have hb1 := hE.2.1
  have hb2 := hr.2.1
  obtain ⟨z, hz, hz0, hz1⟩ := regFnSize (code := code) (ext := ext) h N hE hC hX
  have ew : IntKind.wrap .i64 (z + (slots.length : Int)) = z + (slots.length : Int) := wrapI64 (by omega) (by omega)
  rw [callW_fun code ext (h 494 _ rfl)]
  by_cases hbig : 20000 < z + (slots.length : Int)
  · simp -implicitDefEqProofs [x494, hel, hsl, hz, ew, hbig, hlv]
  · by_cases hbig2 : (0 : Int) < entries.length ∧ (2000 : Int) < slots.length
    · have g1 := hbig2.1
      have g2 := hbig2.2
      have g3 : 0 < entries.length := by omega
      have g4 : 2000 < slots.length := by omega
      simp -implicitDefEqProofs [x494, hel, hsl, hz, ew, hbig, g1, g2, g3, g4, hlv]
    · have hn : slots.length ≤ 20000 := by omega
      have htw := twinVals_spec (ext := ext) (h 379 _ rfl) hr (by omega)
      have hrt := twinIV_reads tVal spVal hr
      have hen := enter_spec (ext := ext) (h 753 _ rfl) (h 764 _ rfl) (h 287 _ rfl) N at' cv xv hE hrt (by omega)
      have hrf := refEnter_spec (ext := ext) (h 563 _ rfl) N at' cv xv hE hr
      have hlf := leftVals_spec (ext := ext) (h 336 _ rfl) hr
      have hk1 := keep1 (ext := ext) (h 14 _ rfl) (h 64 _ rfl) slots.length (tVal.row (slots ++ [spVal])) false
      simp only [twinIV] at hrt hen hlf
      have pass : ∀ (P : Prop), ((0 < entries.length → ¬ 2000 < slots.length) → P) → P := fun P k => k (by omega)
      have hq : (0 < entries.length ∧ 2000 < slots.length) = False := eq_false (by omega)
      cases hx : enterOf N entries at' slots with
      | none =>
        rw [hx, enterOut] at hen hrf
        have hsm := sameVals_spec (ext := ext) (h 357 _ rfl) (reads_nil' tVal) (reads_nil' tVal)
        have hk2 := keep2N (ext := ext) (h 14 _ rfl) (h 64 _ rfl) slots.length (tVal.row (slots ++ [spVal])) false
        have hk3 := keep3N (ext := ext) (h 14 _ rfl) (h 64 _ rfl) slots.length (tVal.row (slots ++ [spVal])) false
        obtain ⟨mo, hap⟩ := apartN_spec (code := code) (ext := ext) h slots.length false (slots ++ [spVal]) (by simp) hn
        simp only [bookB, nilB] at hk1 hk2 hk3 hap
        by_cases g3 : 0 < entries.length
        · have g4 : ¬ 2000 < slots.length := by omega
          have g4i : ¬ (2000 : Int) < (slots.length : Int) := by omega
          have g3i : (0 : Int) < (entries.length : Int) := by omega
          simp -implicitDefEqProofs [x494, hel, hsl, hz, ew, hbig, g3, g4, g3i, g4i, hlv, htw, hen, hrf, hsm, hlf, hk1, hk2, hk3, hap]
        · simp -implicitDefEqProofs [x494, hel, hsl, hz, ew, hbig, g3, hlv, htw, hen, hrf, hsm, hlf, hk1, hk2, hk3, hap]
      | some p =>
        obtain ⟨vs, a⟩ := p
        rw [hx, enterOut] at hen hrf
        obtain ⟨hvl, hwf⟩ := enterOf_some hr.1 hx
        have hra : Reads tVal (.slice (tVal.row vs) 0 vs.length (some vs.length)) vs := reads_row tVal vs hwf (by omega) (fun c hc => by cases hc; omega)
        have hsm := sameVals_spec (ext := ext) (h 357 _ rfl) hra hra
        have hk2 := keep2A (ext := ext) (h 14 _ rfl) (h 64 _ rfl) slots.length vs.length (tVal.row vs) (tVal.row (slots ++ [spVal])) false false
        have hk3 := keep3A (ext := ext) (h 14 _ rfl) (h 64 _ rfl) slots.length vs.length (tVal.row vs) (tVal.row (slots ++ [spVal])) (tVal.row vs) false false false
        obtain ⟨mo, hap⟩ := apartA_spec (code := code) (ext := ext) h slots.length vs.length false false false (slots ++ [spVal]) vs vs (by simp) rfl rfl hn (by omega)
        have hvp := vals_plain' vs
        simp only [bookB, nilB] at hk1 hk2 hk3 hap
        by_cases g3 : 0 < entries.length
        · have g4 : ¬ 2000 < slots.length := by omega
          have g4i : ¬ (2000 : Int) < (slots.length : Int) := by omega
          have g3i : (0 : Int) < (entries.length : Int) := by omega
          simp -implicitDefEqProofs [x494, hel, hsl, hz, ew, hbig, g3, g4, g3i, g4i, hlv, htw, hen, hrf, hsm, hlf, hk1, hk2, hk3, hap, hvp]
        · simp -implicitDefEqProofs [x494, hel, hsl, hz, ew, hbig, g3, hlv, htw, hen, hrf, hsm, hlf, hk1, hk2, hk3, hap, hvp]

end
end Go.EX
