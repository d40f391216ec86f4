import Derived.Test.YtgidfebccdfjgaaDoorH17
set_option linter.unusedVariables false
set_option linter.unusedSimpArgs false
namespace Go.EX
section
variable {code : Nat → Option XFun} {ext : Calls'}
abbrev k4Env (sv gv : IV) (seed n q i k : Nat) : Env := [(0, .imm sv), (1, .imm gv), (2, uint64 seed), (7, .optr 0 0), (9, .osl 1 0 1 n none), (16, int64 q), (17, int64 i), (18, int64 k)]
theorem k4_loop (c : Heaps code ext) {sv gv : IV} {xs : List Int} (hr : Reads (tInt .u8) sv xs) {i : Nat} (hil : i < xs.length) (hi200 : i < 200) {seed : Nat} (hseed : seed < 18446744073709551616)
    {W B : List Nat} {e y q : Nat} {L : List Nat} (hi : HI W B e) (hln : L.length = xs.length) (hy : L[i]? = some y) (hh : Has W B (szOf xs) (wvOf seed) i y) (s : St) (hs : s.tidy [0, 1, 2, 7, 9, 16, 17, 18] = ⟨0, k4Env sv gv seed xs.length q i 0, plMem W B e (.flat (irow L) false)⟩) :
    ∃ x s', den code ext (.loop [0, 1, 2, 7, 9, 16, 17, 18] x317L4) s = some (x, s') ∧ x ≠ .normal ∧ (x = .exit 8 ∧ ∃ k, s' = ⟨0, k4Env sv gv seed xs.length q i k ++ [(149, avb false)], plMem W B e (.flat (irow L) false)⟩) := by
  obtain ⟨hx, hn⟩ := sz_ok hr hil
  obtain ⟨b1, b2, b3⟩ := hh
  have ob := hi.obj b1
  rw [b2] at ob
  have hrow : ∃ row off cap, sv = .slice row off xs.length cap ∧ row[off + i]? = some (.val (.int .u8 (szOf xs i : Int))) := by
    obtain ⟨row, off, cap, hiv, _, _, hcut⟩ := reads_pos hr hx
    exact ⟨row, off, cap, hiv, cut_one (by simpa [tInt] using hcut)⟩
  obtain ⟨row, off, cap, rfl, hel⟩ := hrow
  have e2 : IntKind.wrap .i64 (szOf xs i : Int) = szOf xs i := wrapI64 (by omega) (by omega)
  have e4 : (i : Int) < xs.length := by omega
  have q1 := irow_get hy
  have q2 := irow_at hy
  have q3 := irow_len L
  refine loop_rule (fun m s => ∃ (k : Nat), m + k = szOf xs i ∧ s.tidy [0, 1, 2, 7, 9, 16, 17, 18] = ⟨0, k4Env (.slice row off xs.length cap) gv seed xs.length q i k, plMem W B e (.flat (irow L) false)⟩) _ ?_ (szOf xs i) s ⟨0, rfl, hs⟩
  clear hs s
  rintro m s ⟨k, h1, hs⟩
  rw [hs]
  by_cases hk : k < szOf xs i
  · have hw := b3 k hk
    obtain ⟨m1, a, v, hv, c1, c2, c3, c4, c5⟩ := wvOf_bin seed i k (by omega) (by omega) hseed
    rw [← hv] at hw
    have hrd := read_obj (ext := ext) c.small c.c174 ob hk hw
    have e1 : (k : Int) < szOf xs i := by omega
    have e3 : IntKind.wrap .i64 ((k : Int) + 1) = (k : Int) + 1 := wrapI64 (by omega) (by omega)
    refine ⟨.normal, ⟨0, k4Env (.slice row off xs.length cap) gv seed xs.length q i (k + 1), plMem W B e (.flat (irow L) false)⟩, ?_, .inl ⟨rfl, m - 1, by omega, k + 1, by omega, ?_⟩⟩
    · generalize szOf xs i = n at *
      simp -implicitDefEqProofs [-intBin, b_lss, b_neq, b_add .i64, x317L4, hel, e1, e2, e3, e4, hil, hk, c1, c2, c3, c4, c5, hrd, q1, q2, q3, hln]
    · simp -implicitDefEqProofs []
  · have e1 : ¬ ((k : Int) < szOf xs i) := by omega
    refine ⟨.exit 8, ⟨0, k4Env (.slice row off xs.length cap) gv seed xs.length q i k ++ [(149, avb false)], plMem W B e (.flat (irow L) false)⟩, ?_, .inr ⟨by simp, rfl, k, rfl⟩⟩
    generalize szOf xs i = n at *
    simp -implicitDefEqProofs [-intBin, b_lss, x317L4, hel, e1, e2, e4, hil, hk]
abbrev k5Env (sv gv : IV) (seed n q i : Nat) : Env := [(0, .imm sv), (1, .imm gv), (2, uint64 seed), (7, .optr 0 0), (9, .osl 1 0 1 n none), (16, int64 q), (17, int64 i)]
set_option maxHeartbeats 2000000 in
theorem k5_step (c : Heaps code ext) {sv gv : IV} {xs : List Int} {gs : List Bool} (hr : Reads (tInt .u8) sv xs) (hg : Reads tBool gv gs) {i : Nat} (hil : i < xs.length) (hi200 : i < 200) {seed : Nat} (hseed : seed < 18446744073709551616)
    {W B : List Nat} {e : Nat} {L : List Nat} (hi : HI W B e) (hln : L.length = xs.length) (hh : ∀ j y, L[j]? = some y → goneOf gs j = false → Has W B (szOf xs) (wvOf seed) j y) :
    ∃ s', den code ext x317L5 ⟨0, k5Env sv gv seed xs.length (cnt (goneOf gs) i) i, plMem W B e (.flat (irow L) false)⟩ = some (.normal, s') ∧
      s'.tidy [0, 1, 2, 7, 9, 16, 17] = ⟨0, k5Env sv gv seed xs.length (cnt (goneOf gs) (i + 1)) (i + 1), plMem W B e (.flat (irow L) false)⟩ := by
  have hglen := reads_len hg
  have hc := cnt_le (goneOf gs) i
  have hcs := cnt_succ (goneOf gs) i
  have e3 : IntKind.wrap .i64 ((i : Int) + 1) = (i : Int) + 1 := wrapI64 (by omega) (by omega)
  have hiL : i < L.length := by omega
  have hgc : goneOf gs i = true ∨ goneOf gs i = false := by cases goneOf gs i <;> simp
  rcases hgc with hgi | hgi
  · have hig : i < gs.length := by
      apply Classical.byContradiction; intro hc
      rw [goneOf, List.getElem?_eq_none (by omega)] at hgi; cases hgi
    have hgx : gs[i]? = some true := by
      rw [goneOf, List.getElem?_eq_getElem hig, Option.getD_some] at hgi
      rw [List.getElem?_eq_getElem hig, hgi]
    obtain ⟨grow, goff, gcap, rfl, _, _, gcut⟩ := reads_pos hg hgx
    have hgel : grow[goff + i]? = some (.val (.bool true)) := cut_one (by simpa [tBool] using gcut)
    have e5 : (i : Int) < gs.length := by omega
    rw [hcs, if_pos hgi, Nat.add_zero]
    refine ⟨⟨0, k5Env sv (.slice grow goff gs.length gcap) seed xs.length (cnt (goneOf gs) i) (i + 1), plMem W B e (.flat (irow L) false)⟩, ?_, ?_⟩
    · generalize cnt (goneOf gs) i = q at *
      simp -implicitDefEqProofs [-intBin, b_lss, b_neq, b_add, x317L5, hgel, e3, e5, hig, reads_len hr, hil, (show (i : Int) < xs.length by omega)]
    · simp -implicitDefEqProofs []
  · obtain ⟨y, hy⟩ : ∃ y, L[i]? = some y := ⟨_, List.getElem?_eq_getElem hiL⟩
    have hhi := hh i y hy hgi
    rw [hcs, if_neg (by rw [hgi]; decide)]
    generalize cnt (goneOf gs) i = q at *
    have e6 : IntKind.wrap .i64 ((q : Int) + 1) = ((q + 1 : Nat) : Int) := by rw [wrapI64 (by omega) (by omega)]; omega
    obtain ⟨q', hq'⟩ : ∃ q', q' = q + 1 := ⟨_, rfl⟩
    rw [← hq'] at e6 ⊢
    obtain ⟨x, s', g1, _, rfl, k, rfl⟩ := k4_loop (code := code) (ext := ext) (gv := gv) (q := q') c hr hil hi200 hseed hi hln hy hhi ⟨0, k4Env sv gv seed xs.length q' i 0, plMem W B e (.flat (irow L) false)⟩ (by simp -implicitDefEqProofs [])
    simp only [plMem, k4Env, Int.natCast_zero, List.cons_append, List.nil_append] at g1
    by_cases hig : i < gs.length
    · have hgx : gs[i]? = some false := by
        rw [goneOf, List.getElem?_eq_getElem hig, Option.getD_some] at hgi
        rw [List.getElem?_eq_getElem hig, hgi]
      obtain ⟨grow, goff, gcap, rfl, _, _, gcut⟩ := reads_pos hg hgx
      have hgel : grow[goff + i]? = some (.val (.bool false)) := cut_one (by simpa [tBool] using gcut)
      have e5 : (i : Int) < gs.length := by omega
      refine ⟨⟨0, k5Env sv (.slice grow goff gs.length gcap) seed xs.length q' (i + 1), plMem W B e (.flat (irow L) false)⟩, ?_, ?_⟩
      · simp -implicitDefEqProofs [-intBin, b_lss, b_neq, b_add, x317L5, hgel, e3, e5, e6, hig, g1, reads_len hr, hil, (show (i : Int) < xs.length by omega)]
      · simp -implicitDefEqProofs []
    · have e5 : ¬ ((i : Int) < gs.length) := by omega
      refine ⟨⟨0, k5Env sv gv seed xs.length q' (i + 1), plMem W B e (.flat (irow L) false)⟩, ?_, ?_⟩
      · simp -implicitDefEqProofs [-intBin, b_lss, b_neq, b_add, x317L5, hglen, e3, e5, e6, hig, g1, reads_len hr, hil, (show (i : Int) < xs.length by omega)]
      · simp -implicitDefEqProofs []
end
end Go.EX

