import Derived.Test.YtfmpeoickjggiaaGreatDoorV9r
set_option linter.unusedVariables false
set_option linter.unusedSimpArgs false
namespace Go.EX
attribute [local simp] ck_ren
def checkR (ps : List Fn) : Int × Int × Int := ((lookR ps).2.1, (lookR ps).2.2, match (lookR ps).1 with | none => 8 | some _ => 0)
theorem lookGo_all {ps : List Fn} : ∀ (l : List Fn) (fn : Nat) (ms ms' : List (Int × Int)), lookGo ps l fn ms = (none, ms') → ∀ (k : Nat) (f : Fn), l[k]? = some f → FnOk ps.length f ∧ ∃ T, depthsR f = (some T, -1) ∧ headOk (fn + k) f = true
  | [], _, _, _, _, k, f, h => by simp at h
  | x :: r, fn, ms, ms', hgo, k, f, h => by
    rw [lookGo] at hgo
    split at hgo
    · rename_i hh
      split at hgo
      · rename_i hc
        have hok := fnOk_of hh hc
        split at hgo
        · cases hgo
        · rename_i T z hd
          cases k with
          | zero =>
            simp at h; subst h
            refine ⟨hok, T, ?_, hh⟩
            have hz : z = -1 := by
              have hgen : ∀ (m : Nat) (t d : List Int) T z, runD x m t d = (some T, z) → z = -1 := by
                intro m
                induction m with
                | zero => intro t d T z h; simp only [runD, Prod.mk.injEq] at h; exact h.2.symm
                | succ m ih =>
                  intro t d T z h
                  rw [runD] at h
                  split at h
                  · simp only [Prod.mk.injEq] at h; exact h.2.symm
                  · split at h
                    · split at h
                      · cases h
                      · exact ih _ _ _ _ h
                    · cases h
              exact hgen _ _ _ _ _ hd
            rw [hd, hz]
          | succ k =>
            have := lookGo_all r (fn + 1) _ ms' hgo k f (by simpa using h)
            rw [show fn + (k + 1) = fn + 1 + k by omega]
            exact this
      · cases hgo
    · cases hgo
theorem lookR_all {ps : List Fn} {ms : List (Int × Int)} {z : Int × Int} (h : lookR ps = (some ms, z)) {fn : Nat} {f : Fn} (hf : ps[fn]? = some f) : FnOk ps.length f ∧ ∃ T, depthsR f = (some T, -1) ∧ headOk fn f = true := by
  unfold lookR at h
  split at h
  · split at h
    · cases h
    · rename_i ms1 hgo
      have := lookGo_all ps 0 [] ms1 hgo fn f hf
      rwa [Nat.zero_add] at this
  · cases h
theorem depths_spec9 {pv : IV} {ps : List Fn} (hp : Reads tFn pv ps) (fn : Int) (hfn : -9223372036854775808 ≤ fn ∧ fn ≤ 9223372036854775807) :
    (∃ z e, e ≠ 0 ∧ (lookR ps = (none, z) ∧ e = 8 ∨ (∃ ms, lookR ps = (some ms, z)) ∧ ¬ (0 ≤ fn ∧ fn < ps.length) ∧ e = 1) ∧ run9 659 [.imm pv, int64 fn] [] = some (.tup [nilS, int64 e], [])) ∨
    (∃ ms z f T mv, lookR ps = (some ms, z) ∧ 0 ≤ fn ∧ ps[fn.toNat]? = some f ∧ depthsR f = (some T, -1) ∧ T.length = f.code.xs.length ∧ run9 659 [.imm pv, int64 fn] [] = some (.tup [.osl 0 0 1 T.length none, int64 0], [.flat (rowI T) mv])) := by
  have hlen := reads_len hp
  have hbf := hp.2.1
  have h := look_spec hp
  have his := is_spec fn 0 ps.length
  unfold run9 at h his ⊢
  rw [callW_fun code9 (extInsert 766) (rfl : code9 659 = some x659)]
  rcases h with ⟨a, b, h1, h2⟩ | ⟨ms, h1, h2⟩
  · exact .inl ⟨(a, b), 8, by decide, .inl ⟨h1, rfl⟩, by simp -implicitDefEqProofs [x659, h2, frz_flat]⟩
  · simp only [ckMem] at h2
    by_cases hr : 0 ≤ fn ∧ fn < ps.length
    · have hb : isB fn 0 ps.length = true := by simp only [isB, Bool.and_eq_true, decide_eq_true_eq]; omega
      rw [hb] at his
      obtain ⟨k, rfl⟩ : ∃ k : Nat, fn = k := ⟨fn.toNat, by omega⟩
      have hk := List.getElem?_eq_getElem (show k < ps.length by omega)
      generalize ps[k] = f at hk
      obtain ⟨hok, T, hT, _⟩ := lookR_all h1 hk
      rcases depths_spec hp ms k f hk hok with ⟨p, h3, _⟩ | ⟨T2, mv, h3, h4, h5⟩
      · rw [hT] at h3; cases h3
      · refine .inr ⟨ms, (0, 0), f, T2, mv, h1, hr.1, by simpa using hk, h3, h4, ?_⟩
        unfold run9 at h5
        simp only [ckMem, List.cons_append, List.nil_append] at h5
        simp -implicitDefEqProofs [x659, hlen, h2, his, h5, frz_flat]
    · have hb : isB fn 0 ps.length = false := by simp only [isB, Bool.and_eq_false_iff, decide_eq_false_iff_not]; omega
      rw [hb] at his
      exact .inl ⟨(0, 0), 1, by decide, .inr ⟨⟨ms, h1⟩, hr, rfl⟩, by simp -implicitDefEqProofs [x659, hlen, h2, his, frz_flat]⟩
end Go.EX

