/-
  EX: slice expressions, append, copy, structs held against one another.
-/
import Derived.Test.YtbomedbbgfcncaaOps3
set_option linter.unusedVariables false
set_option linter.unusedSimpArgs false
namespace Go.EX

section
variable {num : FuncId → Nat} {P : Program}
variable {ty : TypeId} {pos : String} {after : Array Edge} {a : Act} {C : Cx} {s : St}

/-- An optional operand. -/
theorem optSrc (hs : SRep num C s a) {x : Option Operand} {y : Option Src} (h : x.mapM (trSrc num) = some y) : (x = none ∧ y = none) ∨ ∃ o z, x = some o ∧ y = some z ∧ ARep num C (s.env.ev z) (a.eval o) := by
  cases x with
  | none => simp at h; exact .inl ⟨rfl, h.symm⟩
  | some o =>
    cases ho : trSrc num o with
    | none => simp [ho] at h
    | some z => simp [ho] at h; exact .inr ⟨o, z, rfl, h.symm, src_rep hs ho⟩

theorem run_bounds (hs : SRep num C s a) {lo hi : Option Operand} {lo' hi' : Option Src} (hl : lo.mapM (trSrc num) = some lo') (hh : hi.mapM (trSrc num) = some hi') {len cap cap' : Nat} {l h : Nat} (isS : Bool)
    (hb : bounds len cap' (lo'.map s.env.ev) (hi'.map s.env.ev) = some (l, h)) (hc : cap' ≤ cap) (w : World) :
    (Instr.sliceBounds isS len cap (lo.map a.eval) (hi.map a.eval) none).run P w = .ok (l, h, cap) w ∧ l ≤ h ∧ h ≤ cap' := by
  unfold bounds at hb
  cases e1 : bndOf len (hi'.map s.env.ev) with
  | none => simp [e1] at hb
  | some h1 =>
    cases e2 : bndOf 0 (lo'.map s.env.ev) with
    | none => simp [e1, e2] at hb
    | some l1 =>
      simp only [e1, e2] at hb
      split at hb
      · rename_i hx
        simp only [Option.some.injEq, Prod.mk.injEq] at hb
        obtain ⟨rfl, rfl⟩ := hb
        refine ⟨?_, by omega, by omega⟩
        have hB : ∀ (o : Operand) (z : Src) (n : Int) (top : Nat) code, ARep num C (s.env.ev z) (a.eval o) → intOf (s.env.ev z) = some n → 0 ≤ n → n ≤ (top : Int) → (Instr.sliceBound (a.eval o) top code).run P w = .ok n.toNat w := by
          intro o z n top code ho hn h0 h1
          obtain ⟨k, hv, _⟩ := rep_int ho hn
          simp only [hv, Instr.sliceBound, asIntOf, Sem.run_bind, Sem.run_pure, Result.andThen_ok]
          rw [if_pos ⟨h0, h1⟩]
          rfl
        rcases optSrc hs hh with ⟨rfl, rfl⟩ | ⟨o, z, rfl, rfl, ho⟩ <;> rcases optSrc hs hl with ⟨rfl, rfl⟩ | ⟨o2, z2, rfl, rfl, ho2⟩
        · simp only [Option.map_none, bndOf, Option.some.injEq] at e1 e2
          subst e1 e2
          simp [Instr.sliceBounds]
        · simp only [Option.map_none, Option.map_some, bndOf, Option.some.injEq] at e1 e2
          subst e1
          have h2 := hB o2 z2 l1 len .sliceB ho2 e2 (by omega) (by omega)
          simp [Instr.sliceBounds, h2]
        · simp only [Option.map_none, Option.map_some, bndOf, Option.some.injEq] at e1 e2
          subst e2
          have h2 := hB o z h1 cap (if isS then .sliceAcap else .sliceAlen) ho e1 (by omega) (by omega)
          simp only [Option.map_some, Option.map_none, Instr.sliceBounds, Sem.run_bind, Sem.run_pure, Result.andThen_ok, h2]
          rfl
        · simp only [Option.map_some, bndOf] at e1 e2
          have h2 := hB o z h1 cap (if isS then .sliceAcap else .sliceAlen) ho e1 (by omega) (by omega)
          have h3 := hB o2 z2 l1 h1.toNat .sliceB ho2 e2 (by omega) (by omega)
          simp only [Option.map_some, Instr.sliceBounds, Sem.run_bind, Sem.run_pure, Result.andThen_ok, h2, Option.isSome_none, Bool.false_eq_true, if_false, h3]
      · cases hb

theorem y_sliceS (hs : SRep num C s a) {t : TypeId} {x : Operand} {x' : Src} {lo hi : Option Operand} {lo' hi' : Option Src} (hx : trSrc num x = some x') (hl : lo.mapM (trSrc num) = some lo') (hh : hi.mapM (trSrc num) = some hi') (ht : P.underlying t = some .string)
    {b : ByteArray} (hb : s.env.ev x' = .imm (.val (.string b))) {l h : Nat} (hbd : bounds b.size b.size (lo'.map s.env.ev) (hi'.map s.env.ev) = some (l, h)) :
    Yields num P (.slice t x lo hi none) ty pos after a C s (.imm (.val (.string (b.extract l h)))) s := by
  have hu := src_val hs hx hb
  have hr := run_bounds (P := P) hs hl hh false hbd (Nat.le_refl _) C.w
  refine yields_pure (v := .string (b.extract l h)) hs (fun _ _ => ?_) (.imm _ _ (.val _ rfl))
  simp [execOp, hu, Instr.sliceAt, Instr.slice, run_underlying ht, hr.1]

theorem y_slice (hs : SRep num C s a) {t e : TypeId} {x : Operand} {x' : Src} {lo hi : Option Operand} {lo' hi' : Option Src} (hx : trSrc num x = some x') (hl : lo.mapM (trSrc num) = some lo') (hh : hi.mapM (trSrc num) = some hi') (ht : P.underlying t = some (.slice e)) (hk : known P e = true)
    {y : AV} (hy : exSlice (P.cellsOf e) (s.env.ev x') (lo'.map s.env.ev) (hi'.map s.env.ev) = some y) :
    Yields num P (.slice t x lo hi none) ty pos after a C s y s := by
  obtain ⟨inf, d, hinf, hd, hsz, _⟩ := known_some hk
  have h1 := src_rep hs hx
  have hi2 : ∀ w, (sizeOf e).run P w = .ok (P.cellsOf e) w := fun w => by rw [run_sizeOf' hinf, hsz]
  generalize hu : a.eval x = u at h1
  have run : ∀ (b : Option Addr) len c l h, u = .slice b len c → (Instr.sliceBounds true len c (lo.map a.eval) (hi.map a.eval) none).run P C.w = .ok (l, h, c) C.w →
      ∀ dst g, (execOp a.eval ⟨dst, .slice t x lo hi none, ty, pos, after, g⟩).run P C.w = .ok (.value (.slice (if c = l then b else b.map (·.add (l * P.cellsOf e))) (h - l) (c - l))) C.w := by
    intro b len c l h hb hr dst g
    simp [execOp, hu, hb, Instr.sliceAt, Instr.slice, run_underlying ht, hr, hi2]
  unfold exSlice at hy
  split at hy
  · rename_i heq
    simp only [Option.map_eq_some_iff] at hy
    obtain ⟨⟨l, h⟩, hb, rfl⟩ := hy
    rw [heq] at h1
    have := rep_val h1
    subst this
    obtain ⟨hr1, hr2, hr3⟩ := run_bounds (P := P) hs hl hh true hb (Nat.le_refl 0) C.w
    refine yields_pure hs (run none 0 0 l h rfl hr1) ?_
    rw [heq]
    have h00 : h - l = 0 := by omega
    simp only [Option.map_none, ite_self, h00, Nat.zero_sub]
    exact h1
  · rename_i row off len cap heq
    simp only [Option.map_eq_some_iff] at hy
    obtain ⟨⟨l, h⟩, hb, rfl⟩ := hy
    rw [heq] at h1
    cases h1 with
    | imm _ _ h1 => cases h1 with
      | slice _ _ _ _ b o c ad u' hI hc hu' hlc hk' ha =>
        have hcap : cap.getD len ≤ c := by cases cap with | none => exact hlc | some k => simp [hk' k rfl]
        obtain ⟨hr1, hr2, hr3'⟩ := run_bounds (P := P) hs hl hh true hb hcap C.w
        have hr3 : h ≤ c := Nat.le_trans hr3' hcap
        refine yields_pure hs (run _ len c l h rfl hr1) ?_
        simp only [Option.map_some, addr_add]
        by_cases hcl : c = l
        · rw [if_pos hcl]
          refine .imm _ _ (.slice row _ _ _ b o (c - l) ad u' hI hc hu' (by omega) ?_ (.inr (by omega)))
          intro k hk2
          cases cap with
          | none => simp at hk2
          | some k0 => simp at hk2; rw [hk' k0 rfl]; exact hk2
        · rw [if_neg hcl]
          refine .imm _ _ (.slice row _ _ _ b o (c - l) _ u' hI hc hu' (by omega) ?_ ?_)
          · intro k hk2
            cases cap with
            | none => simp at hk2
            | some k0 => simp at hk2; rw [hk' k0 rfl]; exact hk2
          · rcases ha with rfl | rfl
            · left; omega
            · right; omega
      | vac _ _ ad =>
        obtain ⟨hr1, hr2, hr3⟩ := run_bounds (P := P) hs hl hh true hb (Nat.le_refl 0) C.w
        have hh0 : h = 0 := by simpa using hr3
        have hl0 : l = 0 := by omega
        subst hh0
        subst hl0
        refine yields_pure hs (run _ 0 0 0 0 rfl hr1) ?_
        simp only [if_true, Nat.sub_zero, Option.map_some, Nat.zero_mul, Nat.add_zero]
        exact .imm _ _ (.vac row off ad)
  · rename_i id off sz' len cap heq
    split at hy
    · rename_i hsz'
      subst hsz'
      simp only [Option.map_eq_some_iff] at hy
      obtain ⟨⟨l, h⟩, hb, rfl⟩ := hy
      rw [heq] at h1
      cases h1 with
      | osl _ _ _ _ _ c ad arr e' hid hlc hk' ha hw hss =>
        have hcap : cap.getD len ≤ c := by cases cap with | none => exact hlc | some k => simp [hk' k rfl]
        obtain ⟨hr1, hr2, hr3'⟩ := run_bounds (P := P) hs hl hh true hb hcap C.w
        have hr3 : h ≤ c := Nat.le_trans hr3' hcap
        refine yields_pure hs (run _ len c l h rfl hr1) ?_
        simp only [Option.map_some, addr_add]
        have hcap2 : ∀ k, cap.map (· - l) = some k → c - l = k := by
          intro k hk2
          cases cap with
          | none => simp at hk2
          | some k0 => simp at hk2; rw [hk' k0 rfl]; exact hk2
        have hfit : c - l = 0 ∨ off + l * P.cellsOf e + (c - l) * P.cellsOf e ≤ arr.size := by
          rcases hss with h0 | h0
          · left; omega
          · right
            rw [Nat.add_assoc, ← Nat.add_mul]
            have : l + (c - l) = c := by omega
            rw [this]; exact h0
        by_cases hcl : c = l
        · rw [if_pos hcl]
          exact .osl id _ _ _ _ (c - l) ad arr e' hid (by omega) hcap2 (.inr (by omega)) hw (.inl (by omega))
        · rw [if_neg hcl]
          refine .osl id _ _ _ _ (c - l) _ arr e' hid (by omega) hcap2 ?_ hw hfit
          rcases ha with rfl | rfl
          · exact .inl rfl
          · right; omega
    · cases hy
  · cases hy

end
end Go.EX
