import Derived.Test.YtfmpeoickjggiaaGreatDoorV9m
set_option maxRecDepth 100000
set_option linter.unusedVariables false
set_option linter.unusedSimpArgs false
namespace Go.EX
def nextD (i : Ins) (pc : Nat) (d2 : Int) (s : DS) : DS :=
  if i.op = 28 ∨ i.op = 29 then s else if i.op = 19 ∨ i.op = 21 then tellD s i.a.toNat d2 else if i.op = 20 then tellD (tellD s (pc + 1) d2) i.a.toNat d2 else tellD s (pc + 1) d2
theorem nextD_ok {n : Nat} {i : Ins} {pc : Nat} {d2 : Int} {s : DS} (hs : DOk n s) (hd : 0 ≤ d2 ∧ d2 ≤ 256) (ha : i.op = 19 ∨ i.op = 20 ∨ i.op = 21 → 0 ≤ i.a ∧ i.a < n) (hp1 : ¬ (i.op = 28 ∨ i.op = 29 ∨ i.op = 19 ∨ i.op = 21) → pc + 1 < n) : DOk n (nextD i pc d2 s) := by
  unfold nextD
  split
  · exact hs
  · split
    · have := ha (by omega)
      exact tellD_ok hs (by omega) hd
    · split
      · have := ha (by omega)
        exact tellD_ok (tellD_ok hs (hp1 (by omega)) hd) (by omega) hd
      · exact tellD_ok hs (hp1 (by omega)) hd
attribute [local simp] ck_ren
structure TailEnv (pc : Nat) (E : Env) : Prop where
  g0 : E.get 0 = .optr 0 0
  g4 : E.get 4 = .optr 2 0
  g6 : E.get 6 = .optr 3 0
  g7 : E.get 7 = .optr 4 0
  g8 : E.get 8 = int64 pc
  g12 : E.get 12 = .optr 7 0
set_option maxHeartbeats 8000000 in
theorem dep_switch (pv : IV) (ms : List (Int × Int)) (f : Fn) (i : Ins) (qk qt ql qm : Int) (s : DS) (junk : List IV) (mvT mvD : Bool) (cap : Option Nat) (hcap : ∀ c, cap = some c → s.todo.length ≤ c) (pc : Nat) (d : Int) {n : Nat} (hs : DOk n s) (hn : n ≤ 1000000)
    (hd : 0 ≤ d + ql ∧ d + ql ≤ 256) (ha : i.op = 19 ∨ i.op = 20 ∨ i.op = 21 → 0 ≤ i.a ∧ i.a < n) (hp1 : ¬ (i.op = 28 ∨ i.op = 29 ∨ i.op = 19 ∨ i.op = 21) → pc + 1 < n) (hpc : pc < n) (e99 : Env) (X : XCode) :
    ∃ E junk' mvD' cap', TailEnv pc E ∧ (∀ c, cap' = some c → (nextD i pc (d + ql) s).todo.length ≤ c) ∧
      den code9 (extInsert 766) (.seq d9R10 (.seq d9SW X)) ⟨2, depEnv pc d ++ e99, depMem pv ms f i (qk, qt, ql, qm) s junk mvT mvD cap⟩ =
        den code9 (extInsert 766) X ⟨2, E, depMem pv ms f i (qk, qt, ql, qm) (nextD i pc (d + ql) s) junk' mvT mvD' cap'⟩ := by
  have e1 : IntKind.wrap .i64 (d + ql) = d + ql := wrapI64 (by omega) (by omega)
  have e2 : IntKind.wrap .i64 ((pc : Int) + 1) = (pc : Int) + 1 := wrapI64 (by omega) (by omega)
  have e3 : ((pc : Int) + 1) = ((pc + 1 : Nat) : Int) := by omega
  by_cases h28 : i.op = 28
  · have hnx : nextD i pc (d + ql) s = s := by unfold nextD; simp [h28]
    rw [hnx]
    obtain ⟨told, todo, ok⟩ := s
    refine ⟨[(0, .optr 0 0), (4, .optr 2 0), (6, .optr 3 0), (7, .optr 4 0), (8, int64 pc), (9, .optr 5 0), (11, int64 (d + ql)), (12, .optr 7 0), (13, .clo 249 [.optr 2 0, .optr 4 0, .optr 7 0]), (128, .imm (.val (.int .u8 28))), (134, avb true)], junk, mvD, cap, ⟨rfl, rfl, rfl, rfl, rfl, rfl⟩, hcap, ?_⟩
    simp only [depEnv, depMem]
    rw [h28]
    simp -implicitDefEqProofs [d9R10, d9SW, e1]
  · by_cases h29 : i.op = 29
    · have hnx : nextD i pc (d + ql) s = s := by unfold nextD; simp [h29]
      rw [hnx]
      obtain ⟨told, todo, ok⟩ := s
      refine ⟨[(0, .optr 0 0), (4, .optr 2 0), (6, .optr 3 0), (7, .optr 4 0), (8, int64 pc), (9, .optr 5 0), (11, int64 (d + ql)), (12, .optr 7 0), (13, .clo 249 [.optr 2 0, .optr 4 0, .optr 7 0]), (128, .imm (.val (.int .u8 29))), (134, avb true)], junk, mvD, cap, ⟨rfl, rfl, rfl, rfl, rfl, rfl⟩, hcap, ?_⟩
      simp only [depEnv, depMem]
      rw [h29]
      simp -implicitDefEqProofs [d9R10, d9SW, e1]
    · by_cases h19 : i.op = 19 ∨ i.op = 21
      · have hnx : nextD i pc (d + ql) s = tellD s i.a.toNat (d + ql) := by unfold nextD; simp [h28, h29, h19]
        have haa := ha (by omega)
        obtain ⟨p, hp⟩ : ∃ p : Nat, i.a = p := ⟨i.a.toNat, by omega⟩
        obtain ⟨junk', mvD', cap', hcap', ht⟩ := tell_spec s junk mvT mvD cap hcap p (d + ql) (by rw [hs.len]; omega) (by rw [hs.len]; exact hs.falls) (by rw [hs.len]; exact hn)
        have hlen := tellD_len s p (d + ql)
        rw [hnx, hp, Int.toNat_natCast]
        generalize tellD s p (d + ql) = s2 at ht hcap' hlen ⊢
        obtain ⟨told, todo, ok⟩ := s
        obtain ⟨told2, todo2, ok2⟩ := s2
        simp only at hlen hcap'
        unfold run9 at ht
        simp only [tellMem] at ht
        refine ⟨[(0, .optr 0 0), (4, .optr 2 0), (6, .optr 3 0), (7, .optr 4 0), (8, int64 pc), (12, .optr 7 0)], junk', (mvD' || mvD), cap', ?_, hcap', ?_⟩
        rotate_left
        · simp only [depEnv, depMem]
          rw [hp]
          rcases h19 with h19 | h21
          · rw [h19]
            simp -implicitDefEqProofs [d9R10, d9SW, e1, ht, hlen]
          · rw [h21]
            simp -implicitDefEqProofs [d9R10, d9SW, e1, ht, hlen]
        · exact ⟨rfl, rfl, rfl, rfl, rfl, rfl⟩
      · have hpn := hp1 (by omega)
        obtain ⟨junk1, mvD1, cap1, hcap1, ht1⟩ := tell_spec s junk mvT mvD cap hcap (pc + 1) (d + ql) (by rw [hs.len]; omega) (by rw [hs.len]; exact hs.falls) (by rw [hs.len]; exact hn)
        have hlen1 := tellD_len s (pc + 1) (d + ql)
        have hs1 := tellD_ok hs hpn hd
        by_cases h20 : i.op = 20
        · have hnx : nextD i pc (d + ql) s = tellD (tellD s (pc + 1) (d + ql)) i.a.toNat (d + ql) := by unfold nextD; simp [h20]
          have haa := ha (by omega)
          obtain ⟨p, hp⟩ : ∃ p : Nat, i.a = p := ⟨i.a.toNat, by omega⟩
          rw [hnx, hp, Int.toNat_natCast]
          generalize tellD s (pc + 1) (d + ql) = s1 at ht1 hcap1 hlen1 hs1 ⊢
          obtain ⟨junk', mvD', cap', hcap', ht⟩ := tell_spec s1 junk1 mvT (mvD1 || mvD) cap1 hcap1 p (d + ql) (by rw [hs1.len]; omega) (by rw [hs1.len]; exact hs1.falls) (by rw [hs1.len]; exact hn)
          have hlen := tellD_len s1 p (d + ql)
          generalize tellD s1 p (d + ql) = s2 at ht hcap' hlen ⊢
          obtain ⟨told, todo, ok⟩ := s
          obtain ⟨told1, todo1, ok1⟩ := s1
          obtain ⟨told2, todo2, ok2⟩ := s2
          simp only at hlen hlen1 hcap'
          unfold run9 at ht ht1
          simp only [tellMem] at ht ht1
          rw [← e3] at ht1
          rw [hlen1] at ht hlen
          refine ⟨[(0, .optr 0 0), (4, .optr 2 0), (6, .optr 3 0), (7, .optr 4 0), (8, int64 pc), (12, .optr 7 0)], junk', (mvD' || (mvD1 || mvD)), cap', ?_, hcap', ?_⟩
          rotate_left
          · simp only [depEnv, depMem]
            rw [hp, h20]
            simp -implicitDefEqProofs [d9R10, d9SW, e1, e2, ht, ht1, hlen, hlen1]
          · exact ⟨rfl, rfl, rfl, rfl, rfl, rfl⟩
        · have hnx : nextD i pc (d + ql) s = tellD s (pc + 1) (d + ql) := by unfold nextD; simp [h28, h29, h19, h20]
          rw [hnx]
          have h19' : ¬ i.op = 19 := fun h => h19 (.inl h)
          have h21' : ¬ i.op = 21 := fun h => h19 (.inr h)
          generalize tellD s (pc + 1) (d + ql) = s1 at ht1 hcap1 hlen1 hs1 ⊢
          obtain ⟨told, todo, ok⟩ := s
          obtain ⟨told1, todo1, ok1⟩ := s1
          simp only at hlen1 hcap1
          unfold run9 at ht1
          simp only [tellMem] at ht1
          rw [← e3] at ht1
          refine ⟨[(0, .optr 0 0), (4, .optr 2 0), (6, .optr 3 0), (7, .optr 4 0), (8, int64 pc), (12, .optr 7 0)], junk1, (mvD1 || mvD), cap1, ?_, hcap1, ?_⟩
          rotate_left
          · simp only [depEnv, depMem]
            simp -implicitDefEqProofs [d9R10, d9SW, e1, e2, ht1, hlen1, h28, h29, h19', h21', h20]
          · exact ⟨rfl, rfl, rfl, rfl, rfl, rfl⟩
theorem dep_end (pv : IV) (ms : List (Int × Int)) (f : Fn) (i : Ins) (qk qt ql qm : Int) (s : DS) (junk : List IV) (mvT mvD : Bool) (cap : Option Nat) (pc : Nat) (E : Env) (hE : TailEnv pc E) :
    ∃ e s', den code9 (extInsert 766) d9R12 ⟨2, E, depMem pv ms f i (qk, qt, ql, qm) s junk mvT mvD cap⟩ = some (e, s') ∧
      ((e = .ret ∧ s.ok = false ∧ ∃ rest, s' = ⟨2, [(4, .optr 2 0), (5, int64 pc)], [.rich (ckCells pv), .map (mkMap ms), .rich [nilS]] ++ rest⟩) ∨
       (e = .normal ∧ s.ok = true ∧ s'.tidy [0, 4, 6, 7] = ⟨2, headEnv, headMem pv ms f s.told s.todo junk mvT mvD cap⟩)) := by
  obtain ⟨g0, g4, g6, g7, g8, g12⟩ := hE
  obtain ⟨told, todo, ok⟩ := s
  cases ok with
  | false =>
    refine ⟨.ret, ⟨2, [(4, .optr 2 0), (5, int64 pc)], [.rich (ckCells pv), .map (mkMap ms), .rich [nilS]] ++ ((depMem pv ms f i (qk, qt, ql, qm) ⟨told, todo, false⟩ junk mvT mvD cap).drop 3)⟩, ?_, .inl ⟨rfl, rfl, _, rfl⟩⟩
    simp only [depMem]
    simp -implicitDefEqProofs [d9R12, g0, g4, g6, g7, g8, g12]
  | true =>
    refine ⟨.normal, ⟨2, headEnv ++ [(8, int64 pc), (158, avb false)], depMem pv ms f i (qk, qt, ql, qm) ⟨told, todo, true⟩ junk mvT mvD cap⟩, ?_, .inr ⟨rfl, rfl, ?_⟩⟩
    · simp only [depMem]
      simp -implicitDefEqProofs [d9R12, g0, g4, g6, g7, g8, g12]
    · simp only [depMem, headMem, headEnv]
      simp -implicitDefEqProofs
end Go.EX

