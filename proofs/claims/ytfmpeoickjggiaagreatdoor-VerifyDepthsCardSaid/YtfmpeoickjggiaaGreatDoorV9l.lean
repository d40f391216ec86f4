import Derived.Test.YtfmpeoickjggiaaGreatDoorV9k
set_option linter.unusedVariables false
set_option linter.unusedSimpArgs false
namespace Go.EX
theorem handOk_at {n : Int} {h : Handler} (hk : handOk n h = true) : (0 ≤ h.at' ∧ h.at' < n) ∧ (0 ≤ h.deep ∧ h.deep < 256) ∧ 0 ≤ h.fr ∧ h.fr < h.to ∧ h.to ≤ h.at' := by
  simp only [handOk, isB, Bool.and_eq_true, decide_eq_true_eq] at hk
  omega
theorem handGo_ok {n : Nat} {pc : Nat} {d : Int} : ∀ (hs : List Handler) (s s2 : DS), DOk n s → (∀ h ∈ hs, handOk n h = true) → handGo pc d hs s = some s2 → DOk n s2
  | [], s, s2, h, _, hg => by cases hg; exact h
  | x :: r, s, s2, h, hall, hg => by
    have hx := handOk_at (hall x (List.mem_cons_self ..))
    rw [handGo] at hg
    split at hg
    · split at hg
      · cases hg
      · exact handGo_ok r _ s2 (tellD_ok h (by omega) (by omega)) (fun y hy => hall y (List.mem_cons_of_mem _ hy)) hg
    · exact handGo_ok r _ s2 h (fun y hy => hall y (List.mem_cons_of_mem _ hy)) hg
theorem hand_loop (pv : IV) (ms : List (Int × Int)) (f : Fn) (i : Ins) (q : Int × Int × Int × Int) (s : DS) (junk : List IV) (mvT mvD : Bool) (cap : Option Nat) (hcap : ∀ c, cap = some c → s.todo.length ≤ c) (pc : Nat) (d : Int) {n : Nat} (hs : DOk n s) (hn : n ≤ 1000000)
    (hall : ∀ h ∈ f.handlers.xs, handOk n h = true) {st : St} (hst : st.tidy [0, 4, 6, 7, 8, 9, 10, 11, 12, 13, 98, 99, 100] = ⟨2, depEnv pc d ++ [(98, .imm f.handlers.iv), (99, int64 f.handlers.xs.length), (100, int64 0)], depMem pv ms f i q s junk mvT mvD cap⟩) :
    ∃ e s', den code9 (extInsert 766) (.loop [0, 4, 6, 7, 8, 9, 10, 11, 12, 13, 98, 99, 100] x248L2) st = some (e, s') ∧ e ≠ .normal ∧
      ((e = .ret ∧ handGo pc d f.handlers.xs s = none ∧ ∃ rest, s' = ⟨2, [(4, .optr 2 0), (5, int64 pc)], [.rich (ckCells pv), .map (mkMap ms), .rich [nilS]] ++ rest⟩) ∨
       (e = .exit 4 ∧ ∃ s2, handGo pc d f.handlers.xs s = some s2 ∧ DOk n s2 ∧ ∃ junk' mvD' cap' e99, (∀ c, cap' = some c → s2.todo.length ≤ c) ∧ s' = ⟨2, depEnv pc d ++ e99, depMem pv ms f i q s2 junk' mvT mvD' cap'⟩)) := by
  have hb := f.handlers.ok.2.1
  refine loop_rule (fun m st => ∃ (k : Nat) (s1 : DS) (junk1 : List IV) (mvD1 : Bool) (cap1 : Option Nat), k + m = f.handlers.xs.length ∧ DOk n s1 ∧ (∀ c, cap1 = some c → s1.todo.length ≤ c) ∧ handGo pc d (f.handlers.xs.drop k) s1 = handGo pc d f.handlers.xs s ∧
      st.tidy [0, 4, 6, 7, 8, 9, 10, 11, 12, 13, 98, 99, 100] = ⟨2, depEnv pc d ++ [(98, .imm f.handlers.iv), (99, int64 f.handlers.xs.length), (100, int64 k)], depMem pv ms f i q s1 junk1 mvT mvD1 cap1⟩) _ ?_ f.handlers.xs.length _ ⟨0, s, junk, mvD, cap, by simp, hs, hcap, by simp, hst⟩
  clear hst
  rintro m st ⟨k, s1, junk1, mvD1, cap1, hk, hs1, hc1, hgo, hst⟩
  rw [hst]
  by_cases hlt : k < f.handlers.xs.length
  · have hx := List.getElem?_eq_getElem hlt
    have hdrop : f.handlers.xs.drop k = f.handlers.xs[k] :: f.handlers.xs.drop (k + 1) := List.drop_eq_getElem_cons hlt
    have hok := handOk_at (hall _ (List.getElem_mem hlt))
    obtain ⟨row, off, cap, hiv, hc, hcut, hget⟩ := reads_pos f.handlers.ok hx
    rw [hdrop, handGo] at hgo
    generalize f.handlers.xs[k] = h at hget hgo hok
    obtain ⟨e, s', h1, ⟨rfl, h2, h3, rest, h4⟩ | ⟨rfl, h2, junk', mvD', cap', h3, h4⟩⟩ := hand_step pv ms f i q s1 junk1 mvT mvD1 cap1 hc1 pc d hs1 hn hlt hb hget (row := row) (off := off) (hc := cap) (k := k) (hl := f.handlers.xs.length) (by omega) hok.2.1
    · rw [if_pos h2, if_pos h3] at hgo
      rw [hiv]
      exact ⟨_, _, h1, .inr ⟨by simp, .inl ⟨rfl, hgo.symm, rest, h4⟩⟩⟩
    · rw [hiv]
      refine ⟨_, _, h1, .inl ⟨rfl, m - 1, by omega, k + 1, _, junk', mvD', cap', by omega, ?_, h3, ?_, h4⟩⟩
      · split
        · exact tellD_ok hs1 (by omega) (by omega)
        · exact hs1
      · rw [← hgo]
        split
        · rename_i hb2
          rw [if_neg (fun hd => h2 ⟨hb2, hd⟩)]
        · rfl
  · have : k = f.handlers.xs.length := by omega
    subst this
    rw [List.drop_length, handGo] at hgo
    refine ⟨.exit 4, ⟨2, depEnv pc d ++ [(98, .imm f.handlers.iv), (99, int64 f.handlers.xs.length), (100, int64 f.handlers.xs.length), (101, avb false)], depMem pv ms f i q s1 junk1 mvT mvD1 cap1⟩, ?_, .inr ⟨by simp, .inr ⟨rfl, s1, hgo.symm, hs1, junk1, mvD1, cap1, _, hc1, rfl⟩⟩⟩
    simp only [depEnv]
    simp -implicitDefEqProofs [x248L2]
end Go.EX

