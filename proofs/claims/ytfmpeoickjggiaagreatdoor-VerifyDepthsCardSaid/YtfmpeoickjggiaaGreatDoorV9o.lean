import Derived.Test.YtfmpeoickjggiaaGreatDoorV9n
import Derived.Test.YtfmpeoickjggiaaGreatDoorV9e
import Derived.Test.YtfmpeoickjggiaaGreatDoorV9g
set_option linter.unusedVariables false
set_option linter.unusedSimpArgs false
namespace Go.EX
def depStep (f : Fn) (i : Ins) (pc : Nat) (v : Int) (told todo : List Int) : Option DS :=
  if preFault v i = true then none else match handGo pc (dOf v i) f.handlers.xs ⟨told, todo, true⟩ with
    | none => none
    | some s => if (nextD i pc (dOf v i + (qOf i.op).2.2.1) s).ok = true then some (nextD i pc (dOf v i + (qOf i.op).2.2.1) s) else none
def runD (f : Fn) : Nat → List Int → List Int → Option (List Int) × Int
  | 0, told, _ => (some told, -1)
  | m + 1, told, todo => match todo.getLast? with
    | none => (some told, -1)
    | some p => match f.code.xs[p.toNat]?, told[p.toNat]? with
      | some i, some v => match depStep f i p.toNat v told todo.dropLast with
        | none => (none, p)
        | some s => runD f m s.told s.todo
      | _, _ => (none, p)
structure FnOk (np : Nat) (f : Fn) : Prop where
  num : ∀ pc i, f.code.xs[pc]? = some i → numOk np f pc i = true ∧ lastBad f pc i = false
  hand : ∀ h ∈ f.handlers.xs, handOk f.code.xs.length h = true
  some : 1 ≤ f.code.xs.length
  few : f.code.xs.length ≤ 16384
def meas (s : DS) : Nat := s.told.countP (fun x => decide (x < 0)) + s.todo.length
theorem insD_len (l : List Int) (p : Int) : (insD l p).length = l.length + 1 := by
  have hsplit : l.takeWhile (fun x => decide (p < x)) ++ l.dropWhile (fun x => decide (p < x)) = l := List.takeWhile_append_dropWhile
  have h2 := congrArg List.length hsplit
  unfold insD
  simp only [List.length_append, List.length_cons] at h2 ⊢
  omega
theorem countP_set : ∀ (l : List Int) (p : Nat) (v d : Int), l[p]? = some v → v < 0 → 0 ≤ d → (l.set p d).countP (fun x => decide (x < 0)) + 1 = l.countP (fun x => decide (x < 0))
  | [], p, v, d, h, _, _ => by simp at h
  | x :: r, 0, v, d, h, hv, hd => by
    simp at h; subst h
    have hn : ¬ d < 0 := by omega
    simp [List.countP_cons, hv, hn]
  | x :: r, p + 1, v, d, h, hv, hd => by
    have := countP_set r p v d (by simpa using h) hv hd
    simp only [List.set_cons_succ, List.countP_cons]
    omega
theorem tellD_meas (s : DS) (p : Nat) (d : Int) (hd : 0 ≤ d) : meas (tellD s p d) = meas s := by
  unfold tellD
  split
  · rename_i v hv
    split
    · rename_i hneg
      have h1 := countP_set s.told p v d hv hneg hd
      have h2 := insD_len s.todo p
      simp only [meas]
      omega
    · rfl
  · rfl
theorem handGo_meas {n : Nat} {pc : Nat} {d : Int} : ∀ (hs : List Handler) (s s2 : DS), (∀ h ∈ hs, handOk n h = true) → handGo pc d hs s = some s2 → meas s2 = meas s
  | [], s, s2, _, hg => by cases hg; rfl
  | x :: r, s, s2, hall, hg => by
    have hx := handOk_at (hall x (List.mem_cons_self ..))
    rw [handGo] at hg
    split at hg
    · split at hg
      · cases hg
      · rw [handGo_meas r _ s2 (fun y hy => hall y (List.mem_cons_of_mem _ hy)) hg, tellD_meas _ _ _ (by omega)]
    · exact handGo_meas r _ s2 (fun y hy => hall y (List.mem_cons_of_mem _ hy)) hg
theorem nextD_meas (i : Ins) (pc : Nat) (d : Int) (hd : 0 ≤ d) (s : DS) : meas (nextD i pc d s) = meas s := by
  unfold nextD
  split
  · rfl
  · split
    · exact tellD_meas _ _ _ hd
    · split
      · rw [tellD_meas _ _ _ hd, tellD_meas _ _ _ hd]
      · exact tellD_meas _ _ _ hd
theorem fnOk_a {np : Nat} {f : Fn} (h : FnOk np f) {pc : Nat} {i : Ins} (hi : f.code.xs[pc]? = some i) : i.op = 19 ∨ i.op = 20 ∨ i.op = 21 → 0 ≤ i.a ∧ i.a < f.code.xs.length := by
  have hlt := (List.getElem?_eq_some_iff.1 hi).1
  have hn := (h.num pc i hi).1
  unfold numOk at hn
  simp only [Bool.and_eq_true] at hn
  rintro (h1 | h1 | h1) <;> rw [h1] at hn
  · have : isB i.a (pc + 1) f.code.xs.length = true := by simpa [opRow, rowTab] using hn.2
    simp only [isB, Bool.and_eq_true, decide_eq_true_eq] at this
    omega
  · have : isB i.a (pc + 1) f.code.xs.length = true := by simpa [opRow, rowTab] using hn.2
    simp only [isB, Bool.and_eq_true, decide_eq_true_eq] at this
    omega
  · have : isB i.a 0 (pc + 1) = true := by simpa [opRow, rowTab] using hn.2
    simp only [isB, Bool.and_eq_true, decide_eq_true_eq] at this
    omega
theorem fnOk_next {np : Nat} {f : Fn} (h : FnOk np f) {pc : Nat} {i : Ins} (hi : f.code.xs[pc]? = some i) : ¬ (i.op = 28 ∨ i.op = 29 ∨ i.op = 21) → pc + 1 < f.code.xs.length := by
  intro hno
  have hlt := (List.getElem?_eq_some_iff.1 hi).1
  have hl := (h.num pc i hi).2
  unfold lastBad at hl
  have h1 : i.op ≠ 28 := fun e => hno (.inl e)
  have h2 : i.op ≠ 29 := fun e => hno (.inr (.inl e))
  have h3 : i.op ≠ 21 := fun e => hno (.inr (.inr e))
  simp only [h1, h2, h3, ne_eq, not_false_eq_true, decide_true, Bool.and_true, decide_eq_false_iff_not] at hl
  omega
theorem pre_bd {v : Int} {i : Ins} (h : preFault v i = false) : 0 ≤ dOf v i ∧ 0 ≤ dOf v i + (qOf i.op).2.2.1 ∧ dOf v i + (qOf i.op).2.2.1 ≤ 256 := by
  simp only [preFault, Bool.or_eq_false_iff, decide_eq_false_iff_not] at h
  have : 0 ≤ (qOf i.op).2.2.1 := by simp only [qOf]; omega
  omega
theorem depStep_ok {np : Nat} {f : Fn} (hf : FnOk np f) {told todo : List Int} {pc : Nat} {i : Ins} {v : Int} (hs : DOk f.code.xs.length ⟨told, todo, true⟩) (hi : f.code.xs[pc]? = some i) {s : DS} (h : depStep f i pc v told todo = some s) :
    DOk f.code.xs.length s ∧ meas s = meas ⟨told, todo, true⟩ ∧ s.ok = true := by
  unfold depStep at h
  split at h
  · cases h
  · rename_i hpf
    have hb := pre_bd (by simpa using hpf)
    split at h
    · cases h
    · rename_i s1 hg
      split at h
      · rename_i hok
        cases h
        have h1 := handGo_ok _ _ _ hs hf.hand hg
        exact ⟨nextD_ok h1 hb.2 (fnOk_a hf hi) (fun hno => fnOk_next hf hi (by omega)), by rw [nextD_meas _ _ _ hb.2.1, handGo_meas _ _ _ hf.hand hg], hok⟩
      · cases h
theorem dep_round {pv : IV} {ps : List Fn} (ms : List (Int × Int)) (f : Fn) {np : Nat} (hf : FnOk np f) (told todo : List Int) (junk : List IV) (mvT mvD : Bool) (cap : Option Nat) (hcap : ∀ c, cap = some c → (todo.length + 1) ≤ c) (pc : Nat) (i : Ins) (v : Int)
    (hs : DOk f.code.xs.length ⟨told, todo, true⟩) (hi : f.code.xs[pc]? = some i) (hv : told[pc]? = some v) (hv0 : 0 ≤ v) :
    ∃ e s', den code9 (extInsert 766) x248L3 ⟨2, headEnv, headMem pv ms f told (todo ++ [(pc : Int)]) junk mvT mvD cap⟩ = some (e, s') ∧
      ((e = .ret ∧ depStep f i pc v told todo = none ∧ ∃ rest, s' = ⟨2, [(4, .optr 2 0), (5, int64 pc)], [.rich (ckCells pv), .map (mkMap ms), .rich [nilS]] ++ rest⟩) ∨
       (e = .normal ∧ ∃ s2, depStep f i pc v told todo = some s2 ∧ ∃ junk' mvD' cap', (∀ c, cap' = some c → s2.todo.length ≤ c) ∧ s'.tidy [0, 4, 6, 7] = ⟨2, headEnv, headMem pv ms f s2.told s2.todo junk' mvT mvD' cap'⟩)) := by
  have hfew := hf.few
  have htl := falls_len _ _ hs.falls
  have htn := hs.len
  simp only at htl htn
  have hvb := hs.bd v (List.mem_of_getElem? hv)
  have hA := den_A pv ms f told (todo ++ [(pc : Int)]) junk mvT mvD cap
  rw [if_pos (by simp)] at hA
  have hpre := dep_pre pv ms f told todo junk mvT mvD cap hcap pc i v hi (hf.num pc i hi).1 hv ⟨hv0, hvb.2⟩ (by omega) (by omega) (.seq d9R9 d9T)
  rw [x248L3_eq, den_seq, hA]
  simp only [andThen, den_block]
  cases hpf : preFault v i with
  | true =>
    obtain ⟨rest, h1⟩ := hpre.1 hpf
    rw [h1]
    exact ⟨.ret, _, rfl, .inl ⟨rfl, by unfold depStep; rw [if_pos hpf], rest, rfl⟩⟩
  | false =>
    rw [hpre.2 hpf]
    have hb := pre_bd hpf
    have hcap2 : ∀ c, cap = some c → (DS.mk told todo true).todo.length ≤ c := fun c hc => by have := hcap c hc; simp only; omega
    have l7 := reads_len f.handlers.ok
    have hR9 : ∀ {E : Env} {M : Mem}, True := fun {_ _} => trivial
    obtain ⟨e, s', h1, hne, hcase⟩ := hand_loop pv ms f i (qOf i.op) ⟨told, todo, true⟩ (.val (.int .i64 pc) :: junk) mvT mvD cap hcap2 pc (dOf v i) hs (by omega) hf.hand
      (st := ⟨2, preEnv pc (dOf v i) ++ [(98, .imm f.handlers.iv), (99, int64 f.handlers.xs.length), (100, int64 0)], preMem pv ms f i told todo (.val (.int .i64 pc) :: junk) mvT mvD cap⟩) (by
        simp only [preEnv, preMem, headMem, depEnv, depMem, fnCells]
        generalize qOf i.op = q
        have := ck_ren
        simp -implicitDefEqProofs [ck_ren])
    have hd9 : den code9 (extInsert 766) d9R9 ⟨2, preEnv pc (dOf v i), preMem pv ms f i told todo (.val (.int .i64 pc) :: junk) mvT mvD cap⟩ = blockOut 4 (den code9 (extInsert 766) (.loop [0, 4, 6, 7, 8, 9, 10, 11, 12, 13, 98, 99, 100] x248L2)
        ⟨2, preEnv pc (dOf v i) ++ [(98, .imm f.handlers.iv), (99, int64 f.handlers.xs.length), (100, int64 0)], preMem pv ms f i told todo (.val (.int .i64 pc) :: junk) mvT mvD cap⟩) := by
      simp only [preEnv, preMem, headMem, fnCells]
      simp -implicitDefEqProofs [d9R9, l7]
    rw [den_seq, hd9, h1]
    rcases hcase with ⟨rfl, h2, rest, rfl⟩ | ⟨rfl, s2, h2, h3, junk', mvD', cap', e99, h4, rfl⟩
    · simp only [blockOut, andThen]
      exact ⟨.ret, _, rfl, .inl ⟨rfl, by unfold depStep; rw [hpf, h2]; rfl, rest, rfl⟩⟩
    · simp only [blockOut, andThen, if_true]
      obtain ⟨E, j2, m2, c2, hE, hc2, h5⟩ := dep_switch pv ms f i (qOf i.op).1 (qOf i.op).2.1 (qOf i.op).2.2.1 (qOf i.op).2.2.2 s2 junk' mvT mvD' cap' h4 pc (dOf v i) h3 (by omega) hb.2 (fnOk_a hf hi) (fun hno => fnOk_next hf hi (by omega)) (List.getElem?_eq_some_iff.1 hi).1 e99 d9R12
      have h5' : den code9 (extInsert 766) d9T ⟨2, depEnv pc (dOf v i) ++ e99, depMem pv ms f i (qOf i.op) s2 junk' mvT mvD' cap'⟩ = _ := h5
      rw [h5']
      obtain ⟨e, s', h6, ⟨rfl, h7, rest, rfl⟩ | ⟨rfl, h7, h8⟩⟩ := dep_end pv ms f i (qOf i.op).1 (qOf i.op).2.1 (qOf i.op).2.2.1 (qOf i.op).2.2.2 _ j2 mvT m2 c2 pc E hE
      · rw [h6]
        exact ⟨.ret, _, rfl, .inl ⟨rfl, by unfold depStep; rw [hpf, h2]; simp only [Bool.false_eq_true, if_false, h7], rest, rfl⟩⟩
      · rw [h6]
        exact ⟨.normal, _, rfl, .inr ⟨rfl, _, by unfold depStep; rw [hpf, h2]; simp only [Bool.false_eq_true, if_false, h7, if_true], j2, m2, c2, hc2, h8⟩⟩
end Go.EX

