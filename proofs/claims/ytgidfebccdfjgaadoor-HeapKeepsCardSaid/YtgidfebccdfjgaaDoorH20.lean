import Derived.Test.YtgidfebccdfjgaaDoorH19
set_option linter.unusedVariables false
set_option linter.unusedSimpArgs false
namespace Go.EX
section
variable {code : Nat → Option XFun} {ext : Calls'}
set_option maxHeartbeats 4000000 in
theorem keeps_ok (c : Heaps code ext) (h : code 317 = some x317) (h2 : code 381 = some x381) {sv gv : IV} {xs : List Int} {gs : List Bool} (hr : Reads (tInt .u8) sv xs) (hg : Reads tBool gv gs) (seed : Nat) (hseed : seed < 18446744073709551616) :
    ∃ m, callW code ext 317 [.imm sv, .imm gv, uint64 seed] [] = some (avb true, m) := by
  have hlen := reads_len hr
  have hal := alive_ok (ext := ext) c h2
  rw [callW_fun code ext h]
  by_cases h200 : 200 < xs.length
  · have e1 : (200 : Int) < xs.length := by omega
    exact ⟨[], by simp -implicitDefEqProofs [-intBin, b_gtr, x317, hal, hlen, h200, e1]⟩
  · have e1 : ¬ ((200 : Int) < xs.length) := by omega
    obtain ⟨N, hN⟩ : ∃ N : Nat, N = 60000 := ⟨_, rfl⟩
    have hn := new_ok (ext := ext) c.c567 N (by omega) (by omega)
    have hi := HI.new N (by omega) (by omega)
    have hW : (List.replicate N 0).length = N := by simp
    generalize List.replicate N 0 = W at *
    generalize List.replicate (N / 64 + 1) 0 = B at *
    have hN' : ((60000 : Int)) = (N : Int) := by omega
    have hk0 : K1 W B 0 [] (szOf xs) (wvOf seed) 0 := ⟨hi, by omega, by omega, rfl, fun j y hy => by simp at hy, List.Pairwise.nil⟩
    obtain ⟨x, s', g1, _, rfl, W1, B1, ee, L, out, m, hk1, hsh, rfl⟩ := k2_loop (ext := ext) (gv := gv) c hr (by omega) hseed hk0 ⟨0, k2Env sv gv seed nilS 0, hMem W B 0⟩ (by simp -implicitDefEqProofs [])
    have hl1 : W1.length = N := by rw [hk1.len, hN]
    have hbl1 : B1.length = B.length := by rw [hk1.hi.bl, hi.bl, hl1, hW]
    have hk3 : K3 W1 B1 ee L (szOf xs) (wvOf seed) (goneOf gs) xs.length 0 0 := hk1.start
    rcases hsh with ⟨rfl, rfl, rfl⟩ | ⟨hne, rfl, rfl⟩
    · have hx0 : xs = [] := by have := hk1.ln; simpa using this.symm
      subst hx0
      obtain ⟨B2, hB2, g3⟩ := cut_yes (ext := ext) c hk3.hi hk3.toe hk3.clear
      obtain ⟨hi2, _, hnum⟩ := hk3.cut hB2
      have hbl2 : B2.length = B.length := by rw [hB2.len, hbl1]
      have hu := used_spec (ext := ext) c.c176 W1 B2 0
      have hpl := places_spec (ext := ext) c.small c.c173 c.c179 c.c180 c.yld c.tz hi2
      have hp0 : placesTo B2 0 = [] := rfl
      rw [hp0] at hpl
      have g4 := k3_nil (code := code) (ext := ext) (gv := gv) hr seed W1 B1 ee
      have g5 := k5_nil (code := code) (ext := ext) (gv := gv) hr seed W1 B2 0
      simp only [hMem, hl1, hbl1, hbl2, hW, k2Env, Int.natCast_zero, List.cons_append, List.nil_append, List.length_nil, plVal] at hn g1 g3 g4 g5 hpl hu hlen
      subst hN
      refine ⟨[], ?_⟩
      simp only [Int.cast_ofNat_Int] at hn
      simp -implicitDefEqProofs [-intBin, b_gtr, b_neq, b_lss, b_leq, b_eql, x317, hal, hlen, hn, g1, g3, g4, g5, hpl, hu]
    · have hLl := hk1.ln
      obtain ⟨x, s', g2, _, rfl, W2, B2, L2, to, hk4, hl2, rfl⟩ := k3_loop (ext := ext) c hr hg hk3 ⟨0, k3Env sv gv seed xs.length 0 0, plMem W1 B1 ee (.flat (irow L) false)⟩ (by simp -implicitDefEqProofs [])
      have hbl2 : B2.length = B.length := by rw [hk4.hi.bl, hi.bl, hl2, hl1, hW]
      obtain ⟨B3, hB3, g3⟩ := cut_yes (ext := ext) c hk4.hi hk4.toe hk4.clear
      obtain ⟨hi3, hhas, hnum⟩ := hk4.cut hB3
      have hbl3 : B3.length = B.length := by rw [hB3.len, hbl2]
      have hu := used_spec (ext := ext) c.c176 W2 B3 to
      have hpl := places_spec (ext := ext) c.small c.c173 c.c179 c.c180 c.yld c.tz hi3
      obtain ⟨x, s', g4, _, rfl, rfl⟩ := k5_loop (ext := ext) c hr hg (by omega) hseed hi3 hk4.ln hhas ⟨0, k5Env sv gv seed xs.length 0 0, plMem W2 B3 to (.flat (irow L2) false)⟩ (by simp -implicitDefEqProofs [])
      have p2 := pcells_refs
      have p3 := pcells_ren
      obtain ⟨l, hl⟩ : ∃ l, placesTo B3 to = l := ⟨_, rfl⟩
      rw [hl] at hpl hnum
      rw [← hnum] at g4
      simp only [hMem, plMem, hl1, hl2, hbl1, hbl2, hbl3, hW, hLl, k2Env, k3Env, k5Env, Int.natCast_zero, List.cons_append, List.nil_append] at hn g1 g2 g3 g4 hpl hu
      subst hN
      simp only [Int.cast_ofNat_Int] at hn
      refine ⟨[], ?_⟩
      match l with
      | [] =>
        simp only [List.length_nil, plVal, Int.natCast_zero] at g4 hpl
        simp -implicitDefEqProofs [-intBin, b_gtr, b_neq, b_lss, b_leq, b_eql, x317, hal, hlen, h200, e1, hn, g1, g2, g3, g4, hpl, hu]
      | [y] =>
        simp only [List.length_cons, List.length_nil, plVal, Int.natCast_one, Nat.zero_add] at g4 hpl
        simp -implicitDefEqProofs [-intBin, b_gtr, b_neq, b_lss, b_leq, b_eql, x317, hal, hlen, h200, e1, hn, g1, g2, g3, g4, hpl, hu]
      | a :: b :: r =>
        have q : plVal (a :: b :: r) 3 = (.osl 3 0 1 (a :: b :: r).length none, [.rich (pcells (a :: b :: r))]) := rfl
        rw [q] at hpl
        generalize a :: b :: r = l at *
        simp -implicitDefEqProofs [-intBin, b_gtr, b_neq, b_lss, b_leq, b_eql, x317, hal, hlen, h200, e1, hn, g1, g2, g3, g4, hpl, hu, p2, p3]
end
end Go.EX

