/-
  EX: copy.
-/
import Derived.Test.YtbomedbbgfcncaaMap
set_option linter.unusedVariables false
set_option linter.unusedSimpArgs false
namespace Go.EX

section
variable {num : FuncId → Nat} {P : Program}
variable {ty : TypeId} {pos : String} {after : Array Edge} {a : Act} {C : Cx} {s : St}

theorem lenOf_rep {x : AV} {v : Value} (h : ARep num C x v) {n : Nat} (hn : lenOf x = some n) : ∃ ba c, v = .slice ba n c := by
  unfold lenOf at hn
  split at hn
  · cases hn; have := rep_val h; subst this; exact ⟨_, _, rfl⟩
  · cases hn; cases h with | imm _ _ h => cases h with
      | slice => exact ⟨_, _, rfl⟩
      | vac => exact ⟨_, _, rfl⟩
  · cases hn; cases h with
      | osl => exact ⟨_, _, rfl⟩
  · cases hn

theorem shorten_rep {x : AV} {ba : Option Addr} {n c : Nat} (h : ARep num C x (.slice ba n c)) {k : Nat} (hk : k ≤ n) (h0 : k ≠ 0) (hn : lenOf x = some n) : ARep num C (shorten k x) (.slice ba k c) := by
  unfold lenOf at hn
  split at hn
  · cases hn; omega
  · cases hn; cases h with | imm _ _ h => cases h with
      | slice row off len cap b o c a u hb hc hu hl hkk ha => exact .imm _ _ (.slice _ _ k _ b o c a u hb hc hu (by omega) hkk ha)
      | vac => omega
  · cases hn; cases h with
      | osl id off sz len cap c a arr e hid hl hkk ha hw hs => exact .osl _ _ _ k _ c a arr e hid (by omega) hkk ha hw hs
  · cases hn

theorem first_none {w : World} (sz n : Nat) (ba : Option Addr) (len c : Nat) (h : n * sz = 0) : (Builtin.firstCells sz n (.slice ba len c)).run P w = .ok #[] w := by
  cases ba with
  | none => rfl
  | some ad =>
    simp only [Builtin.firstCells, h]
    have := run_loadCells (P := P) w ad 0 (fun _ => undef) (fun j hj => by omega)
    simpa using this

theorem y_copy (hs : SRep num C s a) {t u e : TypeId} {d x : Operand} {d' x' : Src} (hd : trSrc num d = some d') (hx : trSrc num x = some x') (ht : P.underlying t = some (.slice e)) (hk : known P e = true) {call : Calls'} {r : AV} {s' : St}
    (h : exOp call s (.copy (P.cellsOf e) d' x') = some (r, s')) : Yields num P (.call { callee := .builtin .copy, args := #[d, x], argTypes := #[t, u] }) ty pos after a C s r s' := by
  obtain ⟨i, de, hi, hde, hsz, _⟩ := known_some hk
  have hdr := src_rep hs hd
  have hxr := src_rep hs hx
  simp only [exOp] at h
  generalize hdv : s.env.ev d' = dv at h hdr
  generalize hxv : s.env.ev x' = xv at h hxr
  split at h
  · rename_i dl n hdl hn
    obtain ⟨db, dc, hde'⟩ := lenOf_rep hdr hdl
    obtain ⟨xb, xc, hxe⟩ := lenOf_rep hxr hn
    have hexec : ∀ {k : Nat} {w' : World}, (Builtin.copy_ #[t, u] ty #[.slice db dl dc, .slice xb n xc]).run P C.w = .ok (goInt k) w' → ∀ dst g, (execOp a.eval ⟨dst, .call { callee := .builtin .copy, args := #[d, x], argTypes := #[t, u] }, ty, pos, after, g⟩).run P C.w = .ok (.value (goInt k)) w' := by
      intro k w' hw dst g
      simp [execOp, resolve, invoke, builtin, hde', hxe, hw, Result.andThen]
    split at h
    · rename_i h0
      cases h
      refine yields_pure hs (v := goInt 0) (fun dst g => hexec (k := 0) ?_ dst g) (.imm _ _ (.val _ rfl))
      have h0' : Nat.min n dl = 0 := h0
      simp only [Builtin.copy_, List.getElem?_toArray, List.getElem?_cons_zero, List.getElem?_cons_succ, Sem.run_bind, run_underlying ht, Result.andThen_ok, Builtin.lenOf, Sem.run_pure, h0', run_sizeOf' hi, first_none _ 0 xb n xc (Nat.zero_mul _)]
      cases db <;> simp [storeCells]
    · rename_i h0
      split at h
      · rename_i id off sz' dl' dcap
        split at h
        · rename_i hszz
          subst hszz
          split at h
          · rename_i m cs hcs
            cases hst : storeAt s.mem (.optr id off) (cs.map .imm) with
            | none => rw [hst] at h; cases h
            | some m' =>
              rw [hst] at h
              simp only [Option.map_some, Option.some.injEq, Prod.mk.injEq] at h
              obtain ⟨rfl, rfl⟩ := h
              have hmn : min n dl ≤ n := Nat.min_le_left _ _
              have hmd : min n dl ≤ dl := Nat.min_le_right _ _
              rw [hxe] at hxr
              have hsr := shorten_rep hxr hmn h0 hn
              obtain ⟨us, hg⟩ := given_of (P := P) hs.mem hsr hcs
              have hm : m = min n dl := by
                have h1 := hg.len C.w
                simp [Builtin.lenOf] at h1
                exact h1.symm
              subst hm
              have hone : ∀ u ∈ us.toList, u.oneCell' = true := by
                intro u hu
                obtain ⟨j, hj⟩ := List.getElem?_of_mem hu
                have hjs : j < us.size := by simpa using (List.getElem?_eq_some_iff.1 hj).1
                have hjc : j < cs.length := by rw [hg.count, ← hg.size]; exact hjs
                obtain ⟨u', hu', hr⟩ := hg.rep j cs[j] (List.getElem?_eq_getElem hjc)
                have : u' = u := by have h2 := hu'.symm.trans (by simpa using hj); exact Option.some.inj h2
                subst this
                exact hr.one
              have hidr : ARep num C (.optr id off) (.pointer (some ⟨C.σ id, off, none⟩)) := by
                rw [hde'] at hdr
                cases hdr with
                | osl _ _ _ _ _ c ad arr e hid hl hkk ha hw hss => exact .optr _ _ hid
              obtain ⟨b, o, w', hv, hrun, hstep, htr⟩ := store_step (P := P) hs.mem hidr (us := us.toList) (by simp [hg.count, hg.size]) hone (fun j y u hy hu => by
                rw [List.getElem?_map] at hy
                cases hq : cs[j]? with
                | none => simp [hq] at hy
                | some q =>
                  simp [hq] at hy
                  subst hy
                  obtain ⟨u', hu', hr⟩ := hg.rep j q hq
                  have : u' = u := by have h2 := hu'.symm.trans (by simpa using hu); exact Option.some.inj h2
                  subst this
                  exact .imm _ _ hr) hst hs.k
              refine ⟨goInt (min n dl : Nat), { C with w := w' }, fun dst g => .inl (hexec (k := (min n dl)) ?_ dst g), hstep, hs.env.mono htr, .imm _ _ (.val _ rfl), rfl⟩
              have hdb : db = some ⟨b, o, none⟩ := by
                rw [hde'] at hdr
                have hl0 : dl ≠ 0 := by omega
                generalize hq : (Value.slice db dl dc) = q at hdr
                cases hdr with
                | osl _ _ _ _ _ c ad arr e hid hl hkk ha hw hss =>
                  simp only [Value.slice.injEq] at hq
                  obtain ⟨rfl, rfl, rfl⟩ := hq
                  simp only [Value.pointer.injEq, Option.some.injEq] at hv
                  rcases ha with ha | ha
                  · rw [ha]; exact congrArg some hv
                  · omega
              have hfc := hg.cells C.w rfl
              have hfc' : (Builtin.firstCells (P.cellsOf e) (Nat.min n dl) (.slice xb n xc)).run P C.w = .ok us C.w := by
                rw [← hfc]; cases xb <;> rfl
              simp only [Builtin.copy_, List.getElem?_toArray, List.getElem?_cons_zero, List.getElem?_cons_succ, Sem.run_bind, run_underlying ht, Result.andThen_ok, Builtin.lenOf, Sem.run_pure, run_sizeOf' hi, ← hsz, hfc', hdb, hrun]
          · cases h
        · cases h
      · cases h
  · cases h

end
end Go.EX
