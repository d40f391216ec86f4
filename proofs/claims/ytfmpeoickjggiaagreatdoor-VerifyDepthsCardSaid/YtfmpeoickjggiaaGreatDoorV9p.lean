import Derived.Test.YtfmpeoickjggiaaGreatDoorV9o
set_option maxRecDepth 100000
set_option maxHeartbeats 4000000
set_option linter.unusedVariables false
set_option linter.unusedSimpArgs false
namespace Go.EX
attribute [local simp] ck_ren
theorem runD_stop (f : Fn) (m : Nat) (told : List Int) : runD f m told [] = (some told, -1) := by
  cases m <;> rfl
theorem dep_loop {pv : IV} {ps : List Fn} (ms : List (Int × Int)) (f : Fn) {np : Nat} (hf : FnOk np f) (mvT : Bool) (told todo : List Int) (junk : List IV) (mvD : Bool) (cap : Option Nat) (hcap : ∀ c, cap = some c → todo.length ≤ c) (hs : DOk f.code.xs.length ⟨told, todo, true⟩)
    {st : St} (hst : st.tidy [0, 4, 6, 7] = ⟨2, headEnv, headMem pv ms f told todo junk mvT mvD cap⟩) :
    ∃ e s', den code9 (extInsert 766) (.loop [0, 4, 6, 7] x248L3) st = some (e, s') ∧ e ≠ .normal ∧
      ((e = .ret ∧ ∃ (p : Nat), runD f (meas ⟨told, todo, true⟩) told todo = (none, (p : Int)) ∧ ∃ rest, s' = ⟨2, [(4, .optr 2 0), (5, int64 p)], [.rich (ckCells pv), .map (mkMap ms), .rich [nilS]] ++ rest⟩) ∨
       (e = .exit 2 ∧ ∃ T, runD f (meas ⟨told, todo, true⟩) told todo = (some T, -1) ∧ T.length = f.code.xs.length ∧ ∃ junk' mvD' cap', s' = ⟨2, headEnv ++ [(37, avb false)], headMem pv ms f T [] junk' mvT mvD' cap'⟩)) := by
  refine loop_rule (fun m st => ∃ (told1 todo1 : List Int) (junk1 : List IV) (mvD1 : Bool) (cap1 : Option Nat), meas ⟨told1, todo1, true⟩ = m ∧ (∀ c, cap1 = some c → todo1.length ≤ c) ∧ DOk f.code.xs.length ⟨told1, todo1, true⟩ ∧ runD f m told1 todo1 = runD f (meas ⟨told, todo, true⟩) told todo ∧
      st.tidy [0, 4, 6, 7] = ⟨2, headEnv, headMem pv ms f told1 todo1 junk1 mvT mvD1 cap1⟩) _ ?_ _ _ ⟨told, todo, junk, mvD, cap, rfl, hcap, hs, rfl, hst⟩
  clear hst
  rintro m st ⟨told1, todo1, junk1, mvD1, cap1, hm, hc1, hs1, hrun, hst⟩
  rw [hst]
  rcases List.eq_nil_or_concat todo1 with rfl | ⟨ini, p, rfl⟩
  · rw [runD_stop] at hrun
    have hA := den_A pv ms f told1 [] junk1 mvT mvD1 cap1
    rw [if_neg (by simp)] at hA
    refine ⟨.exit 2, _, ?_, .inr ⟨by simp, .inr ⟨rfl, told1, hrun.symm, hs1.len, junk1, mvD1, cap1, rfl⟩⟩⟩
    rw [x248L3_eq, den_seq, hA]
    rfl
  · have hin := hs1.falls.inn p (by simp)
    obtain ⟨pc, rfl⟩ : ∃ pc : Nat, p = pc := ⟨p.toNat, by omega⟩
    obtain ⟨v, hv, hv0⟩ := hs1.told pc (by simp)
    have hpc : pc < f.code.xs.length := by omega
    have hi := List.getElem?_eq_getElem hpc
    generalize f.code.xs[pc] = i at hi
    have hm1 : m = meas ⟨told1, ini, true⟩ + 1 := by rw [← hm]; simp [meas]; omega
    have hs2 : DOk f.code.xs.length ⟨told1, ini, true⟩ := by
      refine ⟨hs1.len, ⟨?_, fun x hx => hs1.falls.inn x (by simp [hx])⟩, fun q hq => hs1.told q (by simp at hq ⊢; exact .inl hq), hs1.bd⟩
      have := hs1.falls.sort
      simp only [List.concat_eq_append, List.pairwise_append] at this
      exact this.1
    rw [hm1] at hrun
    simp only [runD, List.getLast?_concat, Int.toNat_natCast, hi, hv, List.concat_eq_append, List.dropLast_concat, List.getLast?_append, List.getLast?_singleton, Option.some_or] at hrun
    have hc2 : ∀ c, cap1 = some c → ini.length + 1 ≤ c := fun c hc => by have := hc1 c hc; simpa using this
    have hr := dep_round (ps := ps) (pv := pv) ms f hf told1 ini junk1 mvT mvD1 cap1 hc2 pc i v hs2 hi hv hv0
    simp only [List.concat_eq_append]
    obtain ⟨e, s', h1, ⟨rfl, h2, rest, rfl⟩ | ⟨rfl, s2, h2, junk', mvD', cap', h3, h4⟩⟩ := hr
    · rw [h2] at hrun
      exact ⟨_, _, h1, .inr ⟨by simp, .inl ⟨rfl, pc, hrun.symm, rest, rfl⟩⟩⟩
    · rw [h2] at hrun
      obtain ⟨hk1, hk2, hk3⟩ := depStep_ok hf hs2 hi h2
      obtain ⟨t2, d2, ok2⟩ := s2
      simp only at hk3 hrun h3 h4
      subst hk3
      exact ⟨_, _, h1, .inl ⟨rfl, m - 1, by omega, t2, d2, junk', mvD', cap', by rw [hk2]; omega, h3, hk1, by rw [hm1, Nat.add_sub_cancel]; exact hrun, h4⟩⟩
def depthsR (f : Fn) : Option (List Int) × Int := runD f f.code.xs.length ((List.replicate f.code.xs.length (-1)).set 0 0) [0]
theorem fill_loop {pv : IV} (ms : List (Int × Int)) (f : Fn) (hn : f.code.xs.length ≤ 16384) (h1n : 1 ≤ f.code.xs.length) {st : St}
    (hst : st.tidy [0, 4, 6, 25, 26] = ⟨2, [(0, .optr 0 0), (4, .optr 2 0), (6, .optr 3 0), (25, int64 f.code.xs.length), (26, int64 0)], [.rich (ckCells pv), .map (mkMap ms), .rich [nilS], .rich (fnCells f)]⟩) :
    ∃ e s', den code9 (extInsert 766) (.loop [0, 4, 6, 25, 26] x248L1) st = some (e, s') ∧ e ≠ .normal ∧ (e = .exit 0 ∧ ∃ mv env, s' = ⟨2, [(0, .optr 0 0), (4, .optr 2 0), (6, .optr 3 0)] ++ env, [.rich (ckCells pv), .map (mkMap ms), .rich [.osl 4 0 1 f.code.xs.length none], .rich (fnCells f), .flat (rowI (List.replicate f.code.xs.length (-1))) mv]⟩) := by
  generalize f.code.xs.length = n at *
  refine loop_rule (fun m st => ∃ (i : Nat), i + m = n ∧ ((i = 0 ∧ st.tidy [0, 4, 6, 25, 26] = ⟨2, [(0, .optr 0 0), (4, .optr 2 0), (6, .optr 3 0), (25, int64 n), (26, int64 0)], [.rich (ckCells pv), .map (mkMap ms), .rich [nilS], .rich (fnCells f)]⟩) ∨
      (0 < i ∧ ∃ mv, st.tidy [0, 4, 6, 25, 26] = ⟨2, [(0, .optr 0 0), (4, .optr 2 0), (6, .optr 3 0), (25, int64 n), (26, int64 i)], [.rich (ckCells pv), .map (mkMap ms), .rich [.osl 4 0 1 i none], .rich (fnCells f), .flat (rowI (List.replicate i (-1))) mv]⟩))) _ ?_ n _ ⟨0, by simp, .inl ⟨rfl, hst⟩⟩
  clear hst
  rintro m st ⟨i, hi, ⟨rfl, hst⟩ | ⟨hi0, mv, hst⟩⟩
  · rw [hst]
    have hlt : (0 : Int) < n := by omega
    refine ⟨.normal, ⟨2, [(0, .optr 0 0), (4, .optr 2 0), (6, .optr 3 0), (25, int64 n), (26, int64 1)], [.rich (ckCells pv), .map (mkMap ms), .rich [.osl 5 0 1 1 none], .rich (fnCells f), .flat [.val (.int .i64 (-1))] false, .flat [.val (.int .i64 (-1))] false]⟩, ?_, .inl ⟨rfl, m - 1, by omega, 1, by omega, .inr ⟨by omega, false, ?_⟩⟩⟩
    · have e1 : IntKind.wrap .i64 1 = 1 := rfl
      simp -implicitDefEqProofs [x248L1, hlt, h1n, show 0 < n from h1n, exAppendX, exAppend, elems, e1]
    · simp -implicitDefEqProofs [List.replicate, rowI, Ty.row, tInt]
  · rw [hst]
    by_cases hlt : i < n
    · have hlti : (i : Int) < n := by omega
      have e1 : IntKind.wrap .i64 ((i : Int) + 1) = (i : Int) + 1 := wrapI64 (by omega) (by omega)
      have hcut : cut (rowI (List.replicate i (-1))) 0 i = some (rowI (List.replicate i (-1))) := cut_all _ (by rw [rowI_len]; simp)
      have hsn : rowI (List.replicate i (-1)) ++ [.val (.int .i64 (-1))] = rowI (List.replicate (i + 1) (-1)) := by
        rw [List.replicate_succ', rowI_app]; rfl
      have hbd : (i + 1) * 8 ≤ 140737488355328 := by omega
      refine ⟨.normal, ⟨2, [(0, .optr 0 0), (4, .optr 2 0), (6, .optr 3 0), (25, int64 n), (26, int64 ((i : Int) + 1))], [.rich (ckCells pv), .map (mkMap ms), .rich [.osl 4 0 1 (i + 1) none], .rich (fnCells f), .flat (rowI (List.replicate (i + 1) (-1))) false, .flat [.val (.int .i64 (-1))] false]⟩, ?_, .inl ⟨rfl, m - 1, by omega, i + 1, by omega, .inr ⟨by omega, false, ?_⟩⟩⟩
      · simp -implicitDefEqProofs [x248L1, hlti, hlt, exAppendX, exAppend, elems, e1, hcut, hsn, hbd]
      · simp -implicitDefEqProofs
    · have : i = n := by omega
      subst this
      refine ⟨.exit 0, _, ?_, .inr ⟨by simp, rfl, mv, [(25, int64 i), (26, int64 i), (27, avb false)], rfl⟩⟩
      simp -implicitDefEqProofs [x248L1]
theorem depths_spec {pv : IV} {ps : List Fn} (hp : Reads tFn pv ps) (ms : List (Int × Int)) (fn : Nat) (f : Fn) (hfn : ps[fn]? = some f) {np : Nat} (hf : FnOk np f) :
    (∃ p : Nat, depthsR f = (none, (p : Int)) ∧ run9 248 [.optr 0 0, int64 fn] (ckMem pv ms) = some (.tup [nilS, int64 p], ckMem pv ms)) ∨
    (∃ T mv, depthsR f = (some T, -1) ∧ T.length = f.code.xs.length ∧ run9 248 [.optr 0 0, int64 fn] (ckMem pv ms) = some (.tup [.osl 2 0 1 T.length none, int64 (-1)], ckMem pv ms ++ [.flat (rowI T) mv])) := by
  have hltf := (List.getElem?_eq_some_iff.1 hfn).1
  have hbf := hp.2.1
  have hlf : (fn : Int) < ps.length := by omega
  have hfn0 : (0 : Int) ≤ (fn : Int) := by omega
  have l5 := reads_len f.code.ok
  have hn1 := hf.some
  have hn2 := hf.few
  have hnem : f.code.xs ≠ [] := fun h => by rw [h] at hn1; simp at hn1
  obtain ⟨e0, s0, hL1, _, rfl, mv, env0, rfl⟩ := fill_loop (pv := pv) ms f hn2 hn1 (st := ⟨2, [(0, .optr 0 0), (4, .optr 2 0), (6, .optr 3 0), (25, int64 f.code.xs.length), (26, int64 0)], [.rich (ckCells pv), .map (mkMap ms), .rich [nilS], .rich (fnCells f)]⟩) (by simp -implicitDefEqProofs)
  have hs0 : DOk f.code.xs.length ⟨(List.replicate f.code.xs.length (-1)).set 0 0, [0], true⟩ := by
    refine ⟨by simp, ⟨by simp, fun x hx => by simp at hx; omega⟩, fun p hpm => ?_, fun x hx => ?_⟩
    · have hp0 : p = 0 := by simpa using hpm
      subst hp0
      exact ⟨0, by rw [List.getElem?_set]; simp [hnem], Int.le_refl _⟩
    · rcases List.mem_or_eq_of_mem_set hx with h | h
      · have := (List.mem_replicate.1 h).2; omega
      · omega
  have hmeas : meas ⟨(List.replicate f.code.xs.length (-1)).set 0 0, [0], true⟩ = f.code.xs.length := by
    have h1 := countP_set (List.replicate f.code.xs.length (-1)) 0 (-1) 0 (by rw [List.getElem?_replicate]; simp [hnem]) (by omega) (by omega)
    have h2 : (List.replicate f.code.xs.length (-1 : Int)).countP (fun x => decide (x < 0)) = f.code.xs.length := by simp [List.countP_replicate]
    simp only [meas, List.length_singleton]
    omega
  have hrow : setAll (rowI (List.replicate f.code.xs.length (-1))) 0 [.val (.int .i64 0)] = rowI ((List.replicate f.code.xs.length (-1)).set 0 0) := rowI_set _ 0 0
  have hlen0 : ((List.replicate f.code.xs.length (-1 : Int)).set 0 0).length = f.code.xs.length := by simp
  have hlenr : 0 + 1 ≤ (rowI (List.replicate f.code.xs.length (-1))).length := by rw [rowI_len]; simp; omega
  obtain ⟨e, s', hL3, hne, hcase⟩ := dep_loop (ps := ps) (pv := pv) ms f hf mv ((List.replicate f.code.xs.length (-1)).set 0 0) [0] [] false (some 1) (fun c hc => by cases hc; simp) hs0
    (st := ⟨2, [(0, .optr 0 0), (4, .optr 2 0), (6, .optr 3 0), (7, .optr 6 0)], [.rich (ckCells pv), .map (mkMap ms), .rich [.osl 4 0 1 f.code.xs.length none], .rich (fnCells f), .flat (rowI ((List.replicate f.code.xs.length (-1)).set 0 0)) mv, .flat [.val (.int .i64 0)] false, .rich [.osl 5 0 1 1 (some 1)]]⟩) (by
      simp only [headEnv, headMem, hlen0]
      simp -implicitDefEqProofs [show rowI [0] = [.val (.int .i64 0)] from rfl])
  rw [hmeas] at hcase
  obtain ⟨row, off, cap, rfl, hc, hcut, hget⟩ := reads_pos hp hfn
  simp only [tFn] at hget
  have hn0 : (0 : Int) < f.code.xs.length := by omega
  have hn0' : 0 < f.code.xs.length := by omega
  unfold run9
  rw [callW_fun code9 (extInsert 766) (rfl : code9 248 = some x248)]
  rcases hcase with ⟨rfl, p, h1, rest, rfl⟩ | ⟨rfl, T, h1, h2, junk', mvD', cap', rfl⟩
  · refine .inl ⟨p, h1, ?_⟩
    simp only [ckMem, List.cons_append, List.nil_append] at hL1 hL3 ⊢
    simp -implicitDefEqProofs [x248, hget, hlf, hfn0, hltf, l5, hL1, hL3, hn0, hn0', hrow, hlenr]
  · refine .inr ⟨T, mv, h1, h2, ?_⟩
    simp only [ckMem, headMem, headEnv, List.cons_append, List.nil_append] at hL1 hL3 ⊢
    simp -implicitDefEqProofs [x248, hget, hlf, hfn0, hltf, l5, hL1, hL3, hn0, hn0', hrow, hlenr]
end Go.EX

