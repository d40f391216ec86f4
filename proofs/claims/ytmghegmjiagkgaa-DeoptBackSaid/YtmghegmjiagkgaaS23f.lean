/-
  EX: law 23: DeoptBack is true.
-/
import Derived.Test.YtmghegmjiagkgaaS23e
import Derived.KernelRfl
set_option linter.unusedVariables false
set_option linter.unusedSimpArgs false
namespace Go.EX

def noExt : Calls' := fun _ _ _ => none

theorem callN_sub {c0 code : Nat → Option XFun} {ext : Calls'} (h : ∀ g f, c0 g = some f → code g = some f) : ∀ n, Le (callN c0 noExt n) (callN code ext n)
  | 0 => fun f a m r hr => by cases hr
  | n + 1 => fun f a m r hr => by
    simp only [callN] at hr ⊢
    cases hc : c0 f with
    | none => rw [hc] at hr; cases hr
    | some xf =>
      rw [hc] at hr
      rw [h f xf hc]
      dsimp only at hr ⊢
      unfold exFun at hr ⊢
      cases hx : exCode (callN c0 noExt n) n xf.body { k := m.length, env := enter 0 a, mem := m } with
      | none => rw [hx] at hr; cases hr
      | some p =>
        rw [hx] at hr
        rw [exCode_mono (callN_sub h n) (Nat.le_refl n) xf.body hx]
        exact hr

/-- What the kernel reckons, for any program that has these functions. -/
theorem callW_run {c0 code : Nat → Option XFun} {ext : Calls'} (h : ∀ g f, c0 g = some f → code g = some f) (n : Nat) {g : Nat} {as : List AV} {m : Mem} {r : AV × Mem} (hr : callN c0 noExt n g as m = some r) : callW code ext g as m = some r :=
  (callW_some code ext).2 ⟨n, callN_sub h n _ _ _ _ hr⟩

def code23 : Nat → Option XFun
  | 493 => some x493
  | 496 => some x496
  | 287 => some x287
  | 288 => some x288
  | 357 => some x357
  | 497 => some x497
  | 753 => some x753
  | 289 => some x289
  | 764 => some x764
  | _ => none

section
variable {code : Nat → Option XFun} {ext : Calls'}

theorem lives_ok (h : ∀ g f, code23 g = some f → code g = some f) : callW code ext 496 [] [] = some (avb true, []) := callW_run h 60 (by kernel_rfl)

def XCode.first : XCode → XCode
  | .seq a _ => a
  | c => c

def XCode.second : XCode → XCode
  | .seq _ b => b
  | c => c

theorem vals_plain (xs : List Val) : (tVal.row xs).all IV.plain = true := by
  simp [Ty.row, tVal, List.all_flatMap, IV.plain]

theorem locs_all (R : List Int) (hb : ∀ x ∈ R, 0 ≤ x ∧ x < 600) : ∀ l ∈ R.map locOf, tLoc.wf l := by
  intro l hl
  obtain ⟨r, hr, rfl⟩ := List.mem_map.1 hl
  have := hb r hr
  exact ⟨wfI64.2 (by simp [locOf]; omega), wfU8.2 (by simp [locOf]), wfI64.2 (by simp [locOf])⟩

theorem enterGo_all (p : Val → Prop) : ∀ (rest : List (Int × Val)) (seen : List Int) (regs out : List Val), (∀ q ∈ rest, p q.2) → (∀ x ∈ regs, p x) → enterGo seen rest regs = some out → ∀ x ∈ out, p x
  | [], seen, regs, out, _, h2, h => by cases h; exact h2
  | (r, v) :: rest, seen, regs, out, h1, h2, h => by
    rw [enterGo] at h
    split at h
    · cases h
    · split at h
      · cases h
      · split at h
        · cases h
        · refine enterGo_all p rest _ _ out (fun q hq => h1 q (List.mem_cons_of_mem _ hq)) (fun x hx => ?_) h
          rcases List.mem_or_eq_of_mem_set hx with hx | rfl
          · exact h2 x hx
          · exact h1 (r, x) (List.mem_cons_self ..)

theorem back_rest (h : ∀ g f, code23 g = some f → code g = some f) {ov sv : IV} {order : List Int} {slots : List Val} (ho : Reads (tInt .u8) ov order) (hs : Reads tVal sv slots) (n : Nat) (hn : n ≤ order.length) (hn2 : n ≤ slots.length) (hn3 : n ≤ 300) :
    ∃ M, den code ext (x493.body.second.second.second.second) ⟨0, [(0, .imm ov), (1, .imm sv), (5, int64 n), (26, avb false)], []⟩ = some (.ret, ⟨0, [(4, avb true)], M⟩) := by
  have hlv := lives_ok (ext := ext) h
  obtain ⟨jv, hj1, hj2⟩ := exSlice_hi hs hn2
  rw [show tVal.sz = 2 from rfl] at hj1
  have htl : (slots.take n).length = n := by rw [List.length_take]; omega
  by_cases h0 : n = 0
  · subst h0
    have h1 : den code ext (.loop [0, 1, 5, 6, 7, 8, 9] x493L2) ⟨0, [(0, .imm ov), (1, .imm sv), (5, int64 0), (6, nilS), (7, nilS), (8, .omap 0), (9, int64 0)], [.map []]⟩ = some (.exit 0, ⟨0, [(0, .imm ov), (1, .imm sv), (5, int64 0), (6, nilS), (7, nilS), (8, .omap 0), (9, int64 0), (31, avb false)], [.map []]⟩) := by
      rw [den_loop]
      simp -implicitDefEqProofs [x493L2]
    have hnilR : Reads (tInt .i64) (.val (.slice none 0 0)) [] := ⟨by simp, by simp, .inl ⟨rfl, rfl⟩⟩
    have hE : Reads tEntry (.slice [.val (.int .i64 3), .val (.int .i64 9), .val (.slice none 0 0)] 0 1 (some 1)) [⟨3, 9, ⟨_, [], hnilR⟩⟩] :=
      reads_row tEntry [⟨3, 9, ⟨_, [], hnilR⟩⟩] (fun x hx => by simp at hx; subst hx; exact ⟨wfI64.2 (by simp), wfI64.2 (by simp)⟩) (by simp) (by simp)
    have hent := enter_spec (ext := ext) (h 753 _ rfl) (h 764 _ rfl) (h 287 _ rfl) 600 0 (.val (.slice none 0 0)) (.val (.slice none 0 0)) hE hj2 (by omega)
    obtain ⟨out, b1, b2, b3⟩ := back_plain [] [] rfl (by simp) (by simp)
    have hentOf : enterOf 600 [⟨3, 9, ⟨_, [], hnilR⟩⟩] 0 (slots.take 0) = some (out, 9) := by
      unfold enterOf
      rw [if_neg (by decide), if_neg (by simp), if_neg (by decide), if_neg (by decide)]
      show (if ([] : List Int).length ≠ (slots.take 0).length then none else (enterGo [] (([] : List Int).zip (slots.take 0)) (List.replicate 600 zVal)).map fun vs => (vs, (9 : Int))) = _
      rw [if_neg (by simp), List.take_zero, b1]; rfl
    rw [hentOf, enterOut, b2] at hent
    have hout : ∀ x ∈ out, tVal.wf x := enterGo_all tVal.wf _ _ _ _ (fun p hp => by simp at hp) (fun x hx => by rw [List.eq_of_mem_replicate hx]; exact ⟨wfU8.2 (by simp), wfI64.2 (by simp)⟩) b1
    have hO : Reads tVal (.slice (tVal.row out) 0 600 (some 600)) out := by
      have := reads_row tVal out (cap := some 600) hout (by omega) (by simp; omega)
      rwa [b2] at this
    have hfr := frame_spec (ext := ext) (slots := []) (sv := .val (.slice none 0 0)) (h 289 _ rfl) (h 288 _ rfl) 0 hO ⟨by simp, by simp, .inl ⟨rfl, rfl⟩⟩ (by simp)
    have hb3 : List.mapM (fun x => tellOf x out) [] = some [] := rfl
    rw [hb3, frameOut] at hfr
    have hB : Reads tVal (.slice [] 0 0 (some 0)) [] := reads_row tVal [] (cap := some 0) (by simp) (by simp) (by simp)
    have hsame := sameVals_spec (ext := ext) (h 357 _ rfl) hB hj2
    have hp1 := vals_plain out
    have hr0 : tVal.row [] = [] := rfl
    rw [show ((0 : Nat) : Int) = 0 from rfl] at hj1 ⊢
    simp only [List.length_nil, hr0, List.take_zero, decide_true] at hfr hsame
    generalize hr : den code ext _ _ = r
    simp -implicitDefEqProofs [x493, XCode.second, h1, hj1, hent, hp1, hfr, hsame, hlv] at hr
    exact ⟨_, hr.symm⟩
  · obtain ⟨e, s', h1, _, rfl, R, m1, m2, g1, g2, g3, rfl⟩ := pick_all (code := code) (ext := ext) ov sv order ho n (by omega) hn hn3
    obtain ⟨out, b1, b2, b3⟩ := back_plain R (slots.take n) (by omega) g3 g2
    have hR : Reads (tInt .i64) (.slice ((tInt .i64).row R) 0 n none) R := by
      have := reads_row (tInt .i64) R (cap := none) (fun x hx => by have := g3 x hx; exact wfI64.2 ⟨by omega, by omega⟩) (by omega) (by simp)
      rwa [g1] at this
    have hE : Reads tEntry (.slice [.val (.int .i64 3), .val (.int .i64 9), .slice ((tInt .i64).row R) 0 n none] 0 1 (some 1)) [⟨3, 9, ⟨_, R, hR⟩⟩] :=
      reads_row tEntry [⟨3, 9, ⟨_, R, hR⟩⟩] (fun x hx => by simp at hx; subst hx; exact ⟨wfI64.2 (by simp), wfI64.2 (by simp)⟩) (by simp) (by simp)
    have hent := enter_spec (ext := ext) (h 753 _ rfl) (h 764 _ rfl) (h 287 _ rfl) 600 0 (.val (.slice none 0 0)) (.val (.slice none 0 0)) hE hj2 (by omega)
    have hentOf : enterOf 600 [⟨3, 9, ⟨_, R, hR⟩⟩] 0 (slots.take n) = some (out, 9) := by
      unfold enterOf
      rw [if_neg (by decide), if_neg (by simp), if_neg (by decide), if_neg (by decide)]
      show (if R.length ≠ (slots.take n).length then none else (enterGo [] (R.zip (slots.take n)) (List.replicate 600 zVal)).map fun vs => (vs, (9 : Int))) = _
      rw [if_neg (by omega), b1]; rfl
    rw [hentOf, enterOut, b2] at hent
    have hL : Reads tLoc (.slice (tLoc.row (R.map locOf)) 0 n none) (R.map locOf) := by
      have := reads_row tLoc (R.map locOf) (cap := none) (locs_all R g3) (by rw [List.length_map]; omega) (by simp)
      rwa [List.length_map, g1] at this
    have hout : ∀ x ∈ out, tVal.wf x := enterGo_all tVal.wf _ _ _ _ (fun p hp => hs.1 _ (List.take_subset _ _ (List.of_mem_zip hp).2)) (fun x hx => by rw [List.eq_of_mem_replicate hx]; exact ⟨wfU8.2 (by simp), wfI64.2 (by simp)⟩) b1
    have hO : Reads tVal (.slice (tVal.row out) 0 600 (some 600)) out := by
      have := reads_row tVal out (cap := some 600) hout (by omega) (by simp; omega)
      rwa [b2] at this
    have hfr := frame_spec (ext := ext) (h 289 _ rfl) (h 288 _ rfl) 0 hO hL (by rw [List.length_map]; omega)
    rw [b3, frameOut, htl] at hfr
    have hB : Reads tVal (.slice (tVal.row (slots.take n)) 0 n (some n)) (slots.take n) := by
      have := reads_row tVal (slots.take n) (cap := some n) (fun x hx => hs.1 x (List.take_subset _ _ hx)) (by omega) (by simp; omega)
      rwa [htl] at this
    have hsame := sameVals_spec (ext := ext) (h 357 _ rfl) hB hj2
    have hp1 := vals_plain out
    have hp2 := vals_plain (slots.take n)
    simp only [decide_true] at hsame
    generalize hr : den code ext _ _ = r
    simp -implicitDefEqProofs [x493, XCode.second, h1, hj1, hent, hp1, hfr, hp2, hsame, hlv] at hr
    exact ⟨_, hr.symm⟩

theorem back_ok (h : ∀ g f, code23 g = some f → code g = some f) {ov sv : IV} {order : List Int} {slots : List Val} (ho : Reads (tInt .u8) ov order) (hs : Reads tVal sv slots) :
    ∃ m, callW code ext 493 [.imm ov, .imm sv] [] = some (avb true, m) := by
  have hlv := lives_ok (ext := ext) h
  rw [callW_fun code ext (h 493 x493 rfl)]
  have hol := reads_len ho
  have hsl := reads_len hs
  obtain ⟨n, hn, hnl, hns⟩ : ∃ n : Nat, n = (if slots.length < order.length then slots.length else order.length) ∧ n ≤ order.length ∧ n ≤ slots.length := ⟨_, rfl, by split <;> omega, by split <;> omega⟩
  by_cases hbig : (300 : Int) < n
  · by_cases hc : slots.length < order.length
    · rw [if_pos hc] at hn
      subst hn
      refine ⟨[], ?_⟩
      simp -implicitDefEqProofs [x493, hol, hsl, hc, hbig, hlv]
    · rw [if_neg hc] at hn
      subst hn
      refine ⟨[], ?_⟩
      simp -implicitDefEqProofs [x493, hol, hsl, hc, hbig, hlv]
  · obtain ⟨M, hM⟩ := back_rest (ext := ext) h ho hs n hnl hns (by omega)
    generalize hrest : x493.body.second.second.second.second = rest at hM
    have hb : x493.body = .seq x493.body.first (.seq x493.body.second.first (.seq x493.body.second.second.first (.seq x493.body.second.second.second.first rest))) := by rw [← hrest]; rfl
    have hres : x493.res = [.tmp 4] := rfl
    by_cases hc : slots.length < order.length
    · rw [if_pos hc] at hn
      subst hn
      refine ⟨[], ?_⟩
      rw [hb]
      simp -implicitDefEqProofs [x493, XCode.first, XCode.second, hol, hsl, hc, hbig, hM]
    · rw [if_neg hc] at hn
      subst hn
      refine ⟨[], ?_⟩
      rw [hb]
      simp -implicitDefEqProofs [x493, XCode.first, XCode.second, hol, hsl, hc, hbig, hM]

end
end Go.EX
