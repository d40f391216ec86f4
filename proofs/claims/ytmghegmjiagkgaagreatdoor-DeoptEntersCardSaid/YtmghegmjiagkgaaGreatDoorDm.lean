/-
  EX: DeoptFrames is true.
-/
import Derived.Test.YtmghegmjiagkgaaGreatDoorDk
set_option linter.unusedVariables false
set_option linter.unusedSimpArgs false
namespace Go.EX
section
variable {code : Nat → Option XFun} {ext : Calls'}

theorem of_fst {p : Option (AV × Mem)} {v : AV} (h : p.map Prod.fst = some v) : ∃ m : Mem, p = some (v, m) := by
  cases p with
  | none => cases h
  | some q => obtain ⟨a, m⟩ := q; cases h; exact ⟨m, rfl⟩

theorem reads_nil' {α : Type} (t : Ty α) : Reads t (.val (.slice none 0 0)) [] := ⟨by simp, by simp, .inl ⟨rfl, rfl⟩⟩

theorem tell_wf {l : Loc} {regs : List Val} (hr : ∀ x ∈ regs, tVal.wf x) (hl : tLoc.wf l) {v : Val} (h : tellOf l regs = some v) : tVal.wf v := by
  by_cases h1 : (regs.length : Int) ≤ l.reg
  · simp [tellOf, h1] at h
  · by_cases h2 : 0 ≤ l.reg
    · have hlt : l.reg.toNat < regs.length := by omega
      simp [tellOf, h1, h2, hlt] at h
      subst h
      exact hr _ (List.getElem_mem hlt)
    · rw [tellOf_kn h1 h2 h]
      exact ⟨hl.2.1, hl.2.2⟩

theorem mapM_wf {α β : Type} (f : α → Option β) (p : β → Prop) : ∀ (l : List α) (ys : List β), (∀ a ∈ l, ∀ b, f a = some b → p b) → l.mapM f = some ys → ∀ y ∈ ys, p y
  | [], ys, _, h => by simp at h; subst h; simp
  | a :: l, ys, hp, h => by
    simp only [List.mapM_cons, Option.bind_eq_bind, Option.pure_def] at h
    cases hf : f a with
    | none => rw [hf] at h; simp at h
    | some b =>
      cases hl : l.mapM f with
      | none => rw [hf, hl] at h; simp at h
      | some c =>
        rw [hf, hl] at h; simp at h; subst h
        intro y hy
        rcases List.mem_cons.1 hy with rfl | hy
        · exact hp a (by simp) _ hf
        · exact mapM_wf f p l c (fun a ha => hp a (by simp [ha])) hl y hy

theorem vals_plain' (xs : List Val) : (tVal.row xs).all IV.plain = true := by
  rw [List.all_eq_true]
  intro x hx
  simp only [Ty.row, List.mem_flatMap] at hx
  obtain ⟨v, _, hv⟩ := hx
  simp only [tVal, List.mem_cons, List.not_mem_nil, or_false] at hv
  rcases hv with rfl | rfl <;> rfl

set_option maxHeartbeats 8000000 in
theorem frames_ok (h : ∀ g f, codeD g = some f → code g = some f) (pc : Int) {sv rv : IV} {slots : List Loc} {regs : List Val} (hs : Reads tLoc sv slots) (hr : Reads tVal rv regs) :
    ∃ mo : Mem, callW code ext 495 [.agg [int64 pc, .imm sv], .imm rv] [] = some (avb true, mo) := by
  apply of_fst
  have hlv := lives_ok (ext := ext) h
  have hsl := reads_len hs
  have hrl := reads_len hr
  have hb1 := hs.2.1
  have hb2 := hr.2.1
  have ew : IntKind.wrap .i64 ((slots.length : Int) + regs.length) = (slots.length : Int) + regs.length := wrapI64 (by omega) (by omega)
  rw [callW_fun code ext (h 495 _ rfl)]
  by_cases hbig : (20000 : Int) < (slots.length : Int) + regs.length
  · simp -implicitDefEqProofs [x495, hsl, hrl, ew, hbig, hlv]
  · have hn : regs.length ≤ 20000 := by omega
    have hm : slots.length ≤ 20000 := by omega
    have htw := twinVals_spec (ext := ext) (h 379 _ rfl) hr (by omega)
    have hrt := twinIV_reads tVal spVal hr
    have hfr := frame_spec (ext := ext) (h 289 _ rfl) (h 288 _ rfl) pc hrt hs (by omega)
    have hlf := leftVals_spec (ext := ext) (h 336 _ rfl) hr
    have hk1 := keep1 (ext := ext) (h 14 _ rfl) (h 64 _ rfl) regs.length (tVal.row (regs ++ [spVal])) false
    simp only [twinIV] at hrt hfr hlf
    rcases refFrame_spec (ext := ext) (h 564 _ rfl) pc hr hs hm with ⟨hx, href⟩ | ⟨hx, href⟩ | ⟨vs, mv, hx, hne, href⟩
    · -- no frame
      rw [hx, frameOut] at hfr
      have hsm := sameVals_spec (ext := ext) (h 357 _ rfl) (reads_nil' tVal) (reads_nil' tVal)
      have hk2 := keep2N (ext := ext) (h 14 _ rfl) (h 64 _ rfl) regs.length (tVal.row (regs ++ [spVal])) false
      have hk3 := keep3N (ext := ext) (h 14 _ rfl) (h 64 _ rfl) regs.length (tVal.row (regs ++ [spVal])) false
      obtain ⟨mo, hap⟩ := apartN_spec (code := code) (ext := ext) h regs.length false (regs ++ [spVal]) (by simp) hn
      simp only [bookB, nilB] at hk1 hk2 hk3 hap
      simp -implicitDefEqProofs [x495, hsl, hrl, ew, hbig, hlv, htw, hfr, href, hsm, hlf, hk1, hk2, hk3, hap]
    · -- no slots
      rw [hx, frameOut] at hfr
      have hra : Reads tVal (.slice (tVal.row []) 0 0 (some 0)) [] := reads_row tVal [] (by simp) (by simp) (fun c hc => by cases hc; simp)
      have hsm := sameVals_spec (ext := ext) (h 357 _ rfl) hra (reads_nil' tVal)
      have hk2 := keep2A (ext := ext) (h 14 _ rfl) (h 64 _ rfl) regs.length 0 (tVal.row []) (tVal.row (regs ++ [spVal])) false false
      have hk3 := keep3A (ext := ext) (h 14 _ rfl) (h 64 _ rfl) regs.length 0 (tVal.row []) (tVal.row (regs ++ [spVal])) (tVal.row []) false false false
      obtain ⟨mo, hap⟩ := apartA_spec (code := code) (ext := ext) h regs.length 0 false false false (regs ++ [spVal]) [] [] (by simp) rfl rfl hn (by omega)
      have hvp := vals_plain' []
      generalize tVal.row [] = r0 at hfr hsm hk2 hk3 hap hvp
      simp only [bookB, nilB] at hk1 hk2 hk3 hap
      simp -implicitDefEqProofs [x495, hsl, hrl, ew, hbig, hlv, htw, hfr, href, hsm, hlf, hk1, hk2, hk3, hap, hvp]
    · have hvl := mapM_len _ _ _ hx
      rw [hx, frameOut] at hfr
      have hwf := mapM_wf (fun x => tellOf x regs) tVal.wf slots vs (fun l hl v hv => tell_wf hr.1 (hs.1 l hl) hv) hx
      have hra : Reads tVal (.slice (tVal.row vs) 0 vs.length (some vs.length)) vs := reads_row tVal vs hwf (by omega) (fun c hc => by cases hc; omega)
      have hrb : Reads tVal (.slice (tVal.row vs) 0 vs.length none) vs := reads_row tVal vs hwf (by omega) (fun c hc => by cases hc)
      have hsm := sameVals_spec (ext := ext) (h 357 _ rfl) hra hrb
      have hk2 := keep2A (ext := ext) (h 14 _ rfl) (h 64 _ rfl) regs.length vs.length (tVal.row vs) (tVal.row (regs ++ [spVal])) false false
      have hk3 := keep3A (ext := ext) (h 14 _ rfl) (h 64 _ rfl) regs.length vs.length (tVal.row vs) (tVal.row (regs ++ [spVal])) (tVal.row vs) false false false
      obtain ⟨mo, hap⟩ := apartA_spec (code := code) (ext := ext) h regs.length vs.length false false false (regs ++ [spVal]) vs vs (by simp) rfl rfl hn (by omega)
      have hvp := vals_plain' vs
      simp only [bookB, nilB] at hk1 hk2 hk3 hap
      simp -implicitDefEqProofs [x495, hsl, hrl, ew, hbig, hlv, htw, hfr, href, hsm, hlf, hk1, hk2, hk3, hap, hvp]

end
end Go.EX
