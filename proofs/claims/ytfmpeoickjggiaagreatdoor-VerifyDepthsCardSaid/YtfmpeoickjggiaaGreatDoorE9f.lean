import Derived.Test.YtfmpeoickjggiaaGreatDoorE9e
import Derived.Test.YtfmpeoickjggiaaGreatDoorV9p
set_option maxRecDepth 100000
set_option maxHeartbeats 4000000
set_option linter.unusedVariables false
set_option linter.unusedSimpArgs false
namespace Go.EX
def Adds (s t : DS) (ps : List Nat) : Prop := ∀ p : Nat, (p : Int) ∈ t.todo → (p : Int) ∈ s.todo ∨ (p ∈ ps ∧ ∃ w, s.told[p]? = some w ∧ w < 0)
theorem tellD_adds (s : DS) (q : Nat) (d : Int) : Adds s (tellD s q d) [q] := by
  intro p hp
  unfold tellD at hp
  split at hp
  · rename_i v hv
    split at hp
    · rename_i hneg
      rcases mem_insD.1 hp with h | h
      · have : p = q := by omega
        subst this
        exact .inr ⟨by simp, v, hv, hneg⟩
      · exact .inl h
    · exact .inl hp
  · exact .inl hp
theorem Adds.trans {s t u : DS} {a b : List Nat} (h : Adds s t a) (g : Adds t u b) (hg : Goes s t) (hl : t.told.length = s.told.length) : Adds s u (a ++ b) := by
  intro p hp
  rcases g p hp with h1 | ⟨h1, w, hw, hneg⟩
  · rcases h p h1 with h2 | ⟨h2, h3⟩
    · exact .inl h2
    · exact .inr ⟨by simp [h2], h3⟩
  · refine .inr ⟨by simp [h1], ?_⟩
    have hlt := (List.getElem?_eq_some_iff.1 hw).1
    refine ⟨s.told[p]'(by omega), List.getElem?_eq_getElem _, ?_⟩
    rcases Int.lt_or_le (s.told[p]'(by omega)) 0 with h4 | h4
    · exact h4
    · have := hg.keep p _ (List.getElem?_eq_getElem (by omega)) h4
      rw [hw] at this
      have h5 := Option.some.inj this
      omega
theorem handGo_adds {pc : Nat} {d : Int} : ∀ (hs : List Handler) (s t : DS), handGo pc d hs s = some t → ∃ ps, Adds s t ps ∧ ∀ p ∈ ps, ∃ h ∈ hs, isB pc h.fr h.to = true ∧ p = h.at'.toNat
  | [], s, t, h => by cases h; exact ⟨[], fun p hp => .inl hp, fun p hp => by cases hp⟩
  | x :: r, s, t, h => by
    rw [handGo] at h
    split at h
    · rename_i hb
      split at h
      · cases h
      · obtain ⟨ps, h1, h2⟩ := handGo_adds r _ t h
        refine ⟨[x.at'.toNat] ++ ps, (tellD_adds s _ _).trans h1 (tellD_goes _ _ _) (tellD_len _ _ _), fun p hp => ?_⟩
        rw [List.mem_append, List.mem_singleton] at hp
        rcases hp with rfl | hp
        · exact ⟨x, List.mem_cons_self .., hb, rfl⟩
        · obtain ⟨y, hy, h3⟩ := h2 p hp
          exact ⟨y, List.mem_cons_of_mem _ hy, h3⟩
    · obtain ⟨ps, h1, h2⟩ := handGo_adds r s t h
      exact ⟨ps, h1, fun p hp => by
        obtain ⟨y, hy, h3⟩ := h2 p hp
        exact ⟨y, List.mem_cons_of_mem _ hy, h3⟩⟩
theorem nextS_adds : ∀ (l : List Nat) (d : Int) (s : DS), Adds s (nextS l d s) l
  | [], d, s => fun p hp => .inl hp
  | q :: r, d, s => by
    have : nextS (q :: r) d s = nextS r d (tellD s q d) := rfl
    rw [this]
    exact (tellD_adds s q d).trans (nextS_adds r d _) (tellD_goes _ _ _) (tellD_len _ _ _)
theorem depStep_adds {np : Nat} {f : Fn} (hf : FnOk np f) {told todo : List Int} {pc : Nat} {i : Ins} {v : Int} (hs : DOk f.code.xs.length ⟨told, todo, true⟩) {s : DS} (h : depStep f i pc v told todo = some s) :
    ∃ ps, Adds ⟨told, todo, true⟩ s ps ∧ ∀ p ∈ ps, pc < p ∨ p ∈ nexts i pc := by
  unfold depStep at h
  split at h
  · cases h
  · split at h
    · cases h
    · rename_i s1 hg
      split at h
      · cases h
        obtain ⟨ps, h1, h2⟩ := handGo_adds _ _ _ hg
        rw [← nextS_nexts]
        refine ⟨ps ++ nexts i pc, h1.trans (nextS_adds _ _ _) (handGo_goes _ _ _ hg) (handGo_len _ _ _ hg), fun p hp => ?_⟩
        rw [List.mem_append] at hp
        rcases hp with hp | hp
        · obtain ⟨y, hy, hb, rfl⟩ := h2 p hp
          have hok := handOk_at (hf.hand y hy)
          simp only [isB, Bool.and_eq_true, decide_eq_true_eq] at hb
          exact .inl (by omega)
        · exact .inr hp
      · cases h
structure Taken (n pc : Nat) (told todo : List Int) (tk : List Bool) : Prop where
  len : tk.length = n
  wasTold : ∀ p : Nat, tk[p]? = some true → ∃ v, told[p]? = some v ∧ 0 ≤ v
  isTodo : ∀ p : Nat, (p : Int) ∈ todo ↔ (∃ v, told[p]? = some v ∧ 0 ≤ v) ∧ tk[p]? = some false
  least : ∀ x ∈ todo, (pc : Int) ≤ x
theorem least_last {n : Nat} {todo : List Int} {pc : Nat} (hf : Falls n todo) (hl : ∀ x ∈ todo, (pc : Int) ≤ x) (hm : (pc : Int) ∈ todo) : ∃ ini, todo = ini ++ [(pc : Int)] ∧ ∀ x ∈ ini, (pc : Int) < x := by
  rcases List.eq_nil_or_concat todo with rfl | ⟨ini, p, rfl⟩
  · cases hm
  · rw [List.concat_eq_append] at *
    have hs := hf.sort
    simp only [List.pairwise_append, List.mem_singleton, forall_eq] at hs
    have hp := hl p (by simp)
    have : p = pc := by
      rw [List.mem_append, List.mem_singleton] at hm
      rcases hm with h | h
      · have := hs.2.2 _ h; omega
      · exact h.symm
    subst this
    exact ⟨ini, rfl, fun x hx => hs.2.2 x hx⟩
theorem taken_step {np : Nat} {f : Fn} (hf : FnOk np f) {told ini : List Int} {tk : List Bool} {pc : Nat} (hs : DOk f.code.xs.length ⟨told, ini, true⟩) (h : Taken f.code.xs.length pc told (ini ++ [(pc : Int)]) tk) (hini : ∀ x ∈ ini, (pc : Int) < x)
    {i : Ins} (hi : f.code.xs[pc]? = some i) {v : Int} (hv : told[pc]? = some v) (hv0 : 0 ≤ v) {s : DS} (hst : depStep f i pc v told ini = some s) : Taken f.code.xs.length (minL pc (nexts i pc)) s.told s.todo (tk.set pc true) := by
  obtain ⟨hok, _, _⟩ := depStep_ok hf hs hi hst
  obtain ⟨hgo, _⟩ := depStep_good hf hs.len hi hst
  obtain ⟨ps, hadd, hps⟩ := depStep_adds hf hs hst
  obtain ⟨hm1, hm2⟩ := minL_le (nexts i pc) pc
  have hlt : pc < tk.length := by rw [h.len]; exact (List.getElem?_eq_some_iff.1 hi).1
  refine ⟨by rw [List.length_set]; exact h.len, fun p hp => ?_, fun p => ⟨fun hp => ?_, fun hp => ?_⟩, fun x hx => ?_⟩
  · rw [List.getElem?_set] at hp
    split at hp
    · rename_i he
      subst he
      exact ⟨v, hgo.keep _ _ hv hv0, hv0⟩
    · obtain ⟨w, hw, hw0⟩ := h.wasTold p hp
      exact ⟨w, hgo.keep _ _ hw hw0, hw0⟩
  · refine ⟨hok.told p hp, ?_⟩
    rw [List.getElem?_set]
    rcases hadd p hp with h1 | ⟨_, w, hw, hneg⟩
    · have := hini _ h1
      rw [if_neg (by omega)]
      exact ((h.isTodo p).1 (by simp [h1])).2
    · have hne : pc ≠ p := fun e => by subst e; simp only at hw; rw [hv] at hw; cases hw; omega
      rw [if_neg hne]
      have hpl : p < tk.length := by
        have := (List.getElem?_eq_some_iff.1 hw).1
        rw [h.len, ← hs.len]; exact this
      have hg := List.getElem?_eq_getElem hpl
      cases hq : tk[p] with
      | false => rw [hg, hq]
      | true =>
        rw [hq] at hg
        obtain ⟨w2, hw2, hw0⟩ := h.wasTold p hg
        simp only at hw
        rw [hw] at hw2; cases hw2; omega
  · obtain ⟨⟨w, hw, hw0⟩, htk⟩ := hp
    rw [List.getElem?_set] at htk
    split at htk
    · cases htk
    · rename_i hne
      rcases hgo.new p w hw hw0 with h1 | h1
      · have := (h.isTodo p).2 ⟨⟨w, h1, hw0⟩, htk⟩
        rw [List.mem_append, List.mem_singleton] at this
        rcases this with h2 | h2
        · exact hgo.todo _ h2
        · exact absurd (by omega) hne
      · exact h1
  · have hin := hok.falls.inn x hx
    obtain ⟨p, rfl⟩ : ∃ p : Nat, x = p := ⟨x.toNat, by omega⟩
    rcases hadd p hx with h1 | ⟨h1, _⟩
    · have := hini _ h1; omega
    · rcases hps p h1 with h2 | h2
      · omega
      · have := hm2 p h2; omega
theorem mem_falls_lt {n : Nat} {todo : List Int} (hf : Falls n todo) {pc : Nat} (hl : ∀ x ∈ todo, (pc : Int) ≤ x) (h : n ≤ pc) : todo = [] := by
  cases todo with
  | nil => rfl
  | cons x r =>
    have h1 := hf.inn x (List.mem_cons_self ..)
    have h2 := hl x (List.mem_cons_self ..)
    omega
theorem r_loop (f : Fn) {np n : Nat} (hf : FnOk np f) (hn : f.code.xs.length = n) (mv : Bool) {told todo : List Int} {tk : List Bool} (hs : DOk n ⟨told, todo, true⟩) (ht : Taken n 0 told todo tk) {st : St} (hst : st.tidy [1, 4, 5, 6, 8] = ⟨0, rEnv0 n 0, rMem f ⟨told, todo, true⟩ tk mv⟩) :
    ∃ e s', den code9 (extInsert 766) (.loop [1, 4, 5, 6, 8] x540L6) st = some (e, s') ∧ e ≠ .normal ∧
      ((e = .ret ∧ ∃ pc : Nat, runD f (meas ⟨told, todo, true⟩) told todo = (none, (pc : Int)) ∧ ∃ mem, s' = ⟨0, [(2, nilS), (3, int64 pc)], mem⟩) ∨
       (e = .exit 2 ∧ ∃ T tk2 pc, runD f (meas ⟨told, todo, true⟩) told todo = (some T, -1) ∧ T.length = n ∧ s' = ⟨0, rEnv0 n pc ++ [(47, avb false)], rMem f ⟨T, [], true⟩ tk2 mv⟩)) := by
  refine loop_rule (fun m st => ∃ (told1 todo1 : List Int) (tk1 : List Bool) (pc : Nat), m = meas ⟨told1, todo1, true⟩ * (n + 1) + (n - pc) ∧ DOk n ⟨told1, todo1, true⟩ ∧ Taken n pc told1 todo1 tk1 ∧ runD f (meas ⟨told1, todo1, true⟩) told1 todo1 = runD f (meas ⟨told, todo, true⟩) told todo ∧
      st.tidy [1, 4, 5, 6, 8] = ⟨0, rEnv0 n pc, rMem f ⟨told1, todo1, true⟩ tk1 mv⟩) _ ?_ _ _ ⟨told, todo, tk, 0, rfl, hs, ht, rfl, hst⟩
  clear hst
  rintro m st ⟨told1, todo1, tk1, pc, hm, hs1, ht1, hrun, hst⟩
  rw [hst]
  have hl1 : told1.length = n := hs1.len
  by_cases hlt : pc < n
  · have hi := List.getElem?_eq_getElem (show pc < f.code.xs.length by omega)
    generalize f.code.xs[pc] = i at hi
    have hv := List.getElem?_eq_getElem (show pc < told1.length by omega)
    generalize told1[pc] = v at hv
    have htkl : pc < tk1.length := by rw [ht1.len]; exact hlt
    have hb := List.getElem?_eq_getElem htkl
    generalize tk1[pc] = b at hb
    by_cases hskip : b = true ∨ v < 0
    · obtain ⟨e, s', h1, ⟨_, rfl, h2⟩ | ⟨hbf, hv0, _⟩⟩ := r_round f hf hn told1 todo1 tk1 mv hl1 ht1.len hs1.bd pc i hi v hv b hb
      · refine ⟨.normal, s', h1, .inl ⟨rfl, _, ?_, told1, todo1, tk1, pc + 1, rfl, hs1, ⟨ht1.len, ht1.wasTold, ht1.isTodo, fun x hx => ?_⟩, hrun, h2⟩⟩
        · omega
        · have h3 := ht1.least x hx
          have h4 : x ≠ pc := by
            rintro rfl
            obtain ⟨⟨w, hw, hw0⟩, hw2⟩ := (ht1.isTodo pc).1 hx
            rw [hv] at hw; cases hw
            rw [hb] at hw2; cases hw2
            rcases hskip with h | h
            · cases h
            · omega
          omega
      · rcases hskip with h | h
        · rw [hbf] at h; cases h
        · omega
    · have hbf : b = false := by cases b <;> simp_all
      subst hbf
      have hv0 : 0 ≤ v := by rcases Int.lt_or_le v 0 with h | h; exact absurd (.inr h) hskip; exact h
      have hmem := (ht1.isTodo pc).2 ⟨⟨v, hv, hv0⟩, hb⟩
      obtain ⟨ini, rfl, hini⟩ := least_last hs1.falls ht1.least hmem
      have hs2 : DOk f.code.xs.length ⟨told1, ini, true⟩ := by
        rw [hn]
        refine ⟨hs1.len, ⟨?_, fun x hx => hs1.falls.inn x (by simp [hx])⟩, fun q hq => hs1.told q (by simp at hq ⊢; exact .inl hq), hs1.bd⟩
        have := hs1.falls.sort
        simp only [List.pairwise_append] at this
        exact this.1
      have hms : meas ⟨told1, ini ++ [(pc : Int)], true⟩ = meas ⟨told1, ini, true⟩ + 1 := by simp [meas]; omega
      rw [hms] at hrun hm
      simp only [runD, Int.toNat_natCast, hi, hv, List.dropLast_concat, List.getLast?_append, List.getLast?_singleton, Option.some_or] at hrun
      have hmm : rMem f ⟨told1, ini ++ [(pc : Int)], true⟩ tk1 mv = rMem f ⟨told1, ini, true⟩ tk1 mv := rfl
      rw [hmm]
      obtain ⟨e, s', h1, ⟨hsk, _⟩ | ⟨_, _, ⟨hst1, rfl, mem, rfl⟩ | ⟨s, hst1, rfl, h2⟩⟩⟩ := r_round f hf hn told1 ini tk1 mv hl1 ht1.len hs1.bd pc i hi v hv false hb
      · exact absurd hsk hskip
      · rw [hst1] at hrun
        exact ⟨.ret, _, h1, .inr ⟨by simp, .inl ⟨rfl, pc, hrun.symm, mem, rfl⟩⟩⟩
      · rw [hst1] at hrun
        obtain ⟨hk1, hk2, hk3⟩ := depStep_ok hf hs2 hi hst1
        have htk := taken_step hf hs2 (by rw [hn]; exact ht1) hini hi hv hv0 hst1
        rw [hn] at hk1 htk
        obtain ⟨t2, d2, ok2⟩ := s
        simp only at hk3 hrun htk
        subst hk3
        obtain ⟨hm1, _⟩ := minL_le (nexts i pc) pc
        refine ⟨.normal, s', h1, .inl ⟨rfl, _, ?_, t2, d2, _, minL pc (nexts i pc), rfl, hk1, htk, ?_, h2⟩⟩
        · rw [hm, hk2, Nat.add_mul]; omega
        · rw [hk2]; exact hrun
  · have htn := mem_falls_lt hs1.falls ht1.least (by omega)
    subst htn
    rw [runD_stop] at hrun
    have hlti : ¬ (pc : Int) < n := by omega
    refine ⟨.exit 2, ⟨0, rEnv0 n pc ++ [(47, avb false)], rMem f ⟨told1, [], true⟩ tk1 mv⟩, ?_, .inr ⟨by simp, .inr ⟨rfl, told1, tk1, pc, hrun.symm, hl1, rfl⟩⟩⟩
    simp only [rMem, fnCells]
    generalize rowB tk1 = B
    generalize rowI told1 = T
    simp -implicitDefEqProofs [x540L6, hlti]
theorem r_fill (f : Fn) {n : Nat} (hn : n ≤ 16384) (h1n : 1 ≤ n) (B : List IV) {st : St} (hst : st.tidy [1, 4, 5, 6, 7] = ⟨0, [(1, .optr 0 0), (4, int64 n), (5, .optr 1 0), (6, .osl 2 0 1 n (some n)), (7, int64 0)], [.rich (fnCells f), .rich [nilS, avb false], .flat B false]⟩) :
    ∃ e s', den code9 (extInsert 766) (.loop [1, 4, 5, 6, 7] x540L1) st = some (e, s') ∧ e ≠ .normal ∧ (e = .exit 0 ∧ ∃ mv, s' = ⟨0, [(1, .optr 0 0), (4, int64 n), (5, .optr 1 0), (6, .osl 2 0 1 n (some n)), (7, int64 n), (28, avb false)], [.rich (fnCells f), .rich [.osl 3 0 1 n none, avb false], .flat B false, .flat (rowI (List.replicate n (-1))) mv]⟩) := by
  refine loop_rule (fun m st => ∃ (i : Nat), i + m = n ∧ ((i = 0 ∧ st.tidy [1, 4, 5, 6, 7] = ⟨0, [(1, .optr 0 0), (4, int64 n), (5, .optr 1 0), (6, .osl 2 0 1 n (some n)), (7, int64 0)], [.rich (fnCells f), .rich [nilS, avb false], .flat B false]⟩) ∨
      (0 < i ∧ ∃ mv, st.tidy [1, 4, 5, 6, 7] = ⟨0, [(1, .optr 0 0), (4, int64 n), (5, .optr 1 0), (6, .osl 2 0 1 n (some n)), (7, int64 i)], [.rich (fnCells f), .rich [.osl 3 0 1 i none, avb false], .flat B false, .flat (rowI (List.replicate i (-1))) mv]⟩))) _ ?_ n _ ⟨0, by simp, .inl ⟨rfl, hst⟩⟩
  clear hst
  rintro m st ⟨i, hi, ⟨rfl, hst⟩ | ⟨hi0, mv, hst⟩⟩
  · rw [hst]
    have hlt : (0 : Int) < n := by omega
    refine ⟨.normal, ⟨0, [(1, .optr 0 0), (4, int64 n), (5, .optr 1 0), (6, .osl 2 0 1 n (some n)), (7, int64 1)], [.rich (fnCells f), .rich [.osl 4 0 1 1 none, avb false], .flat B false, .flat [.val (.int .i64 (-1))] false, .flat [.val (.int .i64 (-1))] false]⟩, ?_, .inl ⟨rfl, m - 1, by omega, 1, by omega, .inr ⟨by omega, false, ?_⟩⟩⟩
    · have e1 : IntKind.wrap .i64 1 = 1 := rfl
      simp -implicitDefEqProofs [x540L1, hlt, h1n, show 0 < n from h1n, exAppendX, exAppend, elems, e1]
    · simp -implicitDefEqProofs [List.replicate, rowI, Ty.row, tInt]
  · rw [hst]
    by_cases hlt : i < n
    · have hlti : (i : Int) < n := by omega
      have e1 : IntKind.wrap .i64 ((i : Int) + 1) = (i : Int) + 1 := wrapI64 (by omega) (by omega)
      have hcut : cut (rowI (List.replicate i (-1))) 0 i = some (rowI (List.replicate i (-1))) := cut_all _ (by rw [rowI_len]; simp)
      have hsn : rowI (List.replicate i (-1)) ++ [.val (.int .i64 (-1))] = rowI (List.replicate (i + 1) (-1)) := by
        rw [List.replicate_succ', rowI_app]; rfl
      have hbd : (i + 1) * 8 ≤ 140737488355328 := by omega
      refine ⟨.normal, ⟨0, [(1, .optr 0 0), (4, int64 n), (5, .optr 1 0), (6, .osl 2 0 1 n (some n)), (7, int64 ((i : Int) + 1))], [.rich (fnCells f), .rich [.osl 3 0 1 (i + 1) none, avb false], .flat B false, .flat (rowI (List.replicate (i + 1) (-1))) false, .flat [.val (.int .i64 (-1))] false]⟩, ?_, .inl ⟨rfl, m - 1, by omega, i + 1, by omega, .inr ⟨by omega, false, ?_⟩⟩⟩
      · simp -implicitDefEqProofs [x540L1, hlti, hlt, exAppendX, exAppend, elems, e1, hcut, hsn, hbd]
      · simp -implicitDefEqProofs
    · have : i = n := by omega
      subst this
      refine ⟨.exit 0, _, ?_, .inr ⟨by simp, rfl, mv, rfl⟩⟩
      simp -implicitDefEqProofs [x540L1]
theorem copies_false (n : Nat) : copies n [IV.val (.bool false)] = rowB (List.replicate n false) := by
  induction n with
  | zero => rfl
  | succ n ih => rw [copies, ih, List.replicate_succ]; rfl
theorem ref_depths (f : Fn) {np : Nat} (hf : FnOk np f) :
    (∃ p : Nat, depthsR f = (none, (p : Int)) ∧ run9 540 [fnAV f] [] = some (.tup [nilS, int64 p], [])) ∨
    (∃ T mv, depthsR f = (some T, -1) ∧ T.length = f.code.xs.length ∧ run9 540 [fnAV f] [] = some (.tup [.osl 0 0 1 T.length none, int64 (-1)], [.flat (rowI T) mv])) := by
  have l5 := reads_len f.code.ok
  have hn1 := hf.some
  have hn2 := hf.few
  have hnem : 0 < f.code.xs.length := hn1
  generalize hn : f.code.xs.length = n at *
  have hcp := copies_false n
  obtain ⟨e0, s0, hL1, _, rfl, mv, rfl⟩ := r_fill f hn2 hn1 (rowB (List.replicate n false)) (st := ⟨0, [(1, .optr 0 0), (4, int64 n), (5, .optr 1 0), (6, .osl 2 0 1 n (some n)), (7, int64 0)], [.rich (fnCells f), .rich [nilS, avb false], .flat (rowB (List.replicate n false)) false]⟩) (by
    generalize rowB (List.replicate n false) = B
    simp -implicitDefEqProofs [fnCells])
  have hs0 : DOk n ⟨(List.replicate n (-1)).set 0 0, [0], true⟩ := by
    refine ⟨by simp, ⟨by simp, fun x hx => by simp at hx; omega⟩, fun p hpm => ?_, fun x hx => ?_⟩
    · have hp0 : p = 0 := by simpa using hpm
      subst hp0
      exact ⟨0, by rw [List.getElem?_set]; simp [hnem], Int.le_refl _⟩
    · rcases List.mem_or_eq_of_mem_set hx with h | h
      · have := (List.mem_replicate.1 h).2; omega
      · omega
  have ht0 : Taken n 0 ((List.replicate n (-1)).set 0 0) [0] (List.replicate n false) := by
    refine ⟨by simp, fun p hp => ?_, fun p => ⟨fun hp => ?_, fun ⟨⟨v, hv, hv0⟩, _⟩ => ?_⟩, fun x hx => by simp at hx; omega⟩
    · have := List.mem_of_getElem? hp
      have := (List.mem_replicate.1 this).2
      cases this
    · have hp0 : p = 0 := by simpa using hp
      subst hp0
      exact ⟨⟨0, by rw [List.getElem?_set]; simp [hnem], Int.le_refl _⟩, by rw [List.getElem?_replicate]; simp [hnem]⟩
    · rw [List.getElem?_set] at hv
      split at hv
      · rename_i h; simp; omega
      · have := List.mem_of_getElem? hv
        have := (List.mem_replicate.1 this).2
        omega
  have hmeas : meas ⟨(List.replicate n (-1)).set 0 0, [0], true⟩ = n := by
    have h1 := countP_set (List.replicate n (-1)) 0 (-1) 0 (by rw [List.getElem?_replicate]; simp [hnem]) (by omega) (by omega)
    have h2 : (List.replicate n (-1 : Int)).countP (fun x => decide (x < 0)) = n := by simp [List.countP_replicate]
    simp only [meas, List.length_singleton]
    omega
  have hrow : setAll (rowI (List.replicate n (-1))) 0 [.val (.int .i64 0)] = rowI ((List.replicate n (-1)).set 0 0) := rowI_set _ 0 0
  have hlen0 : ((List.replicate n (-1 : Int)).set 0 0).length = n := by simp
  have hlenr : 0 + 1 ≤ (rowI (List.replicate n (-1))).length := by rw [rowI_len]; simp; omega
  obtain ⟨e, s', hL6, hne, hcase⟩ := r_loop f hf hn mv hs0 ht0 (st := ⟨0, [(1, .optr 0 0), (4, int64 n), (5, .optr 1 0), (6, .osl 2 0 1 n (some n)), (8, int64 0)], rMem f ⟨(List.replicate n (-1)).set 0 0, [0], true⟩ (List.replicate n false) mv⟩) (by
    simp only [rMem, hlen0]
    generalize rowB (List.replicate n false) = B
    generalize rowI ((List.replicate n (-1)).set 0 0) = T
    simp -implicitDefEqProofs [fnCells])
  rw [hmeas] at hcase
  have e2 : (0 : Int) ≤ n ∧ (n : Int) ≤ n ∧ (1 : Int) * n ≤ 281474976710656 ∧ (n : Int) ≤ 9223372036854775807 := by omega
  have e3 : (n : Int) ≤ 281474976710656 := by omega
  have e4 : (n : Int) ≤ 9223372036854775807 := by omega
  have hn0 : (0 : Int) < n := by omega
  unfold depthsR
  rw [hn]
  unfold run9
  rw [callW_fun code9 (extInsert 766) (rfl : code9 540 = some x540)]
  simp only [rMem, fnCells, hlen0, Bool.not_true] at hL6 hL1
  generalize rowB (List.replicate n false) = B at *
  generalize rowI ((List.replicate n (-1)).set 0 0) = T0 at *
  generalize rowI (List.replicate n (-1)) = T1 at *
  rcases hcase with ⟨rfl, p, h1, mem, rfl⟩ | ⟨rfl, T, tk2, pc, h1, h2, rfl⟩
  · refine .inl ⟨p, h1, ?_⟩
    cases mem with
    | nil => simp -implicitDefEqProofs [x540, l5, e2, e3, e4, hcp, hL1, hL6, hn0, hnem, hrow, hlenr]
    | cons q r => simp -implicitDefEqProofs [x540, l5, e2, e3, e4, hcp, hL1, hL6, hn0, hnem, hrow, hlenr]
  · refine .inr ⟨T, mv, h1, h2, ?_⟩
    simp only [rMem, fnCells, h2] at hL6 ⊢
    generalize rowB tk2 = B2 at *
    generalize rowI T = T2 at *
    simp -implicitDefEqProofs [x540, l5, e2, e3, e4, hcp, hL1, hL6, hn0, hnem, hrow, hlenr]
end Go.EX

