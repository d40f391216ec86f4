import Derived.Test.YtgidfebccdfjgaaDoorH15
set_option linter.unusedVariables false
set_option linter.unusedSimpArgs false
namespace Go.EX
def szOf (xs : List Int) (i : Nat) : Nat := ((xs[i]?).getD 0).toNat
theorem sz_ok {iv : IV} {xs : List Int} (hr : Reads (tInt .u8) iv xs) {i : Nat} (hi : i < xs.length) : xs[i]? = some (szOf xs i : Int) ∧ szOf xs i ≤ 255 := by
  have hx := List.getElem?_eq_getElem hi
  have hw := wfU8.1 (hr.1 _ (List.getElem_mem hi))
  unfold szOf
  rw [hx, Option.getD_some]
  exact ⟨by congr 1; omega, by omega⟩
section
variable {code : Nat → Option XFun} {ext : Calls'}
theorem k1_loop (c : Heaps code ext) {sv gv : IV} {xs : List Int} (hr : Reads (tInt .u8) sv xs) {i : Nat} (hil : i < xs.length) (hi200 : i < 200) {seed : Nat} (hseed : seed < 18446744073709551616)
    {W B : List Nat} {e p N : Nat} {L : List Nat} (hw : KW W B e L (szOf xs) (wvOf seed) i p 0) (s : St) (hs : s.tidy [0, 1, 2, 7, 9, 10, 11, 13] = ⟨0, k1Env sv gv seed N i p 0, plMem W B e (.flat (irow L) false)⟩) :
    ∃ x s', den code ext (.loop [0, 1, 2, 7, 9, 10, 11, 13] x317L1) s = some (x, s') ∧ x ≠ .normal ∧ (x = .exit 2 ∧ ∃ W' k, K1 W' B e L (szOf xs) (wvOf seed) (i + 1) ∧ W'.length = W.length ∧ s' = ⟨0, k1Env sv gv seed N i p k ++ [(63, avb false)], plMem W' B e (.flat (irow L) false)⟩) := by
  obtain ⟨hx, hn⟩ := sz_ok hr hil
  refine loop_rule (fun m s => ∃ (k : Nat) (W' : List Nat), m + k = szOf xs i ∧ KW W' B e L (szOf xs) (wvOf seed) i p k ∧ W'.length = W.length ∧ s.tidy [0, 1, 2, 7, 9, 10, 11, 13] = ⟨0, k1Env sv gv seed N i p k, plMem W' B e (.flat (irow L) false)⟩) _ ?_ (szOf xs i) s ⟨0, W, rfl, hw, rfl, hs⟩
  clear hs s hw
  rintro m s ⟨k, W', h1, h2, h3, hs⟩
  rw [hs]
  by_cases hk : k < szOf xs i
  · obtain ⟨s', g1, g2⟩ := k1_step (code := code) (ext := ext) (gv := gv) (N := N) c hr hx hi200 hn hseed h2.hi h2.bit h2.size hk
    exact ⟨.normal, s', g1, .inl ⟨rfl, m - 1, by omega, k + 1, _, by omega, h2.write hk (wvOf_lt ..), by rw [List.length_set]; exact h3, g2⟩⟩
  · obtain rfl : k = szOf xs i := by omega
    obtain ⟨row, off, cap, rfl, _, _, hcut⟩ := reads_pos hr hx
    have hel : row[off + i]? = some (.val (.int .u8 (szOf xs i : Int))) := cut_one (by simpa [tInt] using hcut)
    refine ⟨.exit 2, ⟨0, k1Env (.slice row off xs.length cap) gv seed N i p (szOf xs i) ++ [(63, avb false)], plMem W' B e (.flat (irow L) false)⟩, ?_, .inr ⟨by simp, rfl, W', _, h2.done, h3, rfl⟩⟩
    have e2 : IntKind.wrap .i64 (szOf xs i : Int) = szOf xs i := wrapI64 (by omega) (by omega)
    have e4 : (i : Int) < xs.length := by omega
    generalize szOf xs i = n at *
    simp -implicitDefEqProofs [-intBin, b_lss, x317L1, hel, e2, e4, hil]
abbrev k2Env (sv gv : IV) (seed : Nat) (out : AV) (i : Nat) : Env := [(0, .imm sv), (1, .imm gv), (2, uint64 seed), (7, .optr 0 0), (9, out), (10, int64 i)]
set_option maxHeartbeats 2000000 in
theorem k2_step (c : Heaps code ext) {sv gv : IV} {xs : List Int} (hr : Reads (tInt .u8) sv xs) {i : Nat} (hil : i < xs.length) (hi200 : i < 200) {seed : Nat} (hseed : seed < 18446744073709551616)
    {W B : List Nat} {e : Nat} {L : List Nat} (hw : K1 W B e L (szOf xs) (wvOf seed) i) (out : AV) (m : Mem) (hout : (L = [] ∧ out = nilS ∧ m = hMem W B e) ∨ (L ≠ [] ∧ out = .osl 1 0 1 L.length none ∧ m = plMem W B e (.flat (irow L) false))) :
    ∃ s' W' B' e' L', den code ext x317L2 ⟨0, k2Env sv gv seed out i, m⟩ = some (.normal, s') ∧ K1 W' B' e' L' (szOf xs) (wvOf seed) (i + 1) ∧
      s'.tidy [0, 1, 2, 7, 9, 10] = ⟨0, k2Env sv gv seed (.osl 1 0 1 L'.length none) (i + 1), plMem W' B' e' (.flat (irow L') false)⟩ := by
  obtain ⟨hx, hn⟩ := sz_ok hr hil
  have hkw := hw.alloc (by omega) (by omega)
  have hlen := hw.len
  have htop := hw.top
  have hf : szOf xs i + e < W.length := by omega
  have ha := alloc_step (ext := ext) c hw.hi (k := 8) (n := szOf xs i) (by decide) (by decide) hf
  have hl : (setAll (W.set e (szOf xs i * 256 + 8)) (e + 1) (List.replicate (szOf xs i) 0)).length = W.length := by rw [setAll_len]; simp
  have hbl : (setBit B e).length = B.length := by simp [setBit]
  have hL' : (L ++ [e]).length = L.length + 1 := by simp
  have hLl := hw.ln
  obtain ⟨e', he'⟩ : ∃ e', e' = e + szOf xs i + 1 := ⟨_, rfl⟩
  rw [← he'] at ha hkw
  generalize setAll (W.set e (szOf xs i * 256 + 8)) (e + 1) (List.replicate (szOf xs i) 0) = W' at *
  generalize setBit B e = B' at *
  have q1 := irow_snoc L e
  have q2 := irow_len L
  have q3 := irow_len (L ++ [e])
  have q4 : cut (irow L) 0 L.length = some (irow L) := cut_mk (by rw [List.drop_zero]; exact List.take_of_length_le (by rw [irow_len]; exact Nat.le_refl _)) (irow_len L)
  have hrow : ∃ row off cap, sv = .slice row off xs.length cap ∧ row[off + i]? = some (.val (.int .u8 (szOf xs i : Int))) := by
    obtain ⟨row, off, cap, hiv, _, _, hcut⟩ := reads_pos hr hx
    exact ⟨row, off, cap, hiv, cut_one (by simpa [tInt] using hcut)⟩
  obtain ⟨row, off, cap, rfl, hel⟩ := hrow
  have hlenx : xs.length ≤ 140737488355328 := hr.2.1
  have e2 : IntKind.wrap .i64 (szOf xs i : Int) = szOf xs i := wrapI64 (by omega) (by omega)
  have e3 : IntKind.wrap .i64 ((i : Int) + 1) = (i : Int) + 1 := wrapI64 (by omega) (by omega)
  have e4 : (i : Int) < xs.length := by omega
  have h6 : (L.length + 1) * 8 ≤ 140737488355328 := by omega
  simp only [hMem, hl, hbl, Int.cast_ofNat_Int] at ha
  rcases hout with ⟨rfl, rfl, rfl⟩ | ⟨hne, rfl, rfl⟩
  · obtain ⟨x, s', g1, _, rfl, W2, k, hk1, hl2, rfl⟩ := k1_loop (code := code) (ext := ext) (gv := gv) (N := 1) c hr hil hi200 hseed hkw
      ⟨0, [(0, .imm (.slice row off xs.length cap)), (1, .imm gv), (2, uint64 seed), (7, .optr 0 0), (9, .osl 4 0 1 1 none), (10, int64 i), (11, int64 e), (13, int64 0)], hMem W' B' e' ++ [.flat [i64v e] false, .flat [i64v e] false]⟩ (by simp -implicitDefEqProofs [irow])
    simp only [hMem, plMem, hl, hl2, hbl, k1Env, Int.natCast_zero, List.cons_append, List.nil_append, irow, List.map_cons, List.map_nil] at g1
    refine ⟨⟨0, k2Env (.slice row off xs.length cap) gv seed (.osl 1 0 1 1 none) (i + 1), plMem W2 B' e' (.flat [i64v e] false)⟩, W2, B', _, [] ++ [e], ?_, hk1, ?_⟩
    · generalize szOf xs i = n at *
      simp -implicitDefEqProofs [-intBin, b_lss, b_neq, b_add, x317L2, hel, e2, e3, e4, hil, ha, hl, hbl, hl2, g1, exAppendX, exAppend, elems]
    · simp -implicitDefEqProofs [hl2, irow]
  · obtain ⟨x, s', g1, _, rfl, W2, k, hk1, hl2, rfl⟩ := k1_loop (code := code) (ext := ext) (gv := gv) (N := L.length + 1) c hr hil hi200 hseed hkw
      ⟨0, k1Env (.slice row off xs.length cap) gv seed (L.length + 1) i e 0, plMem W' B' e' (.flat (irow (L ++ [e])) false) ++ [.flat [i64v e] false]⟩ (by simp -implicitDefEqProofs [])
    simp only [hMem, plMem, hl, hl2, hbl, k1Env, Int.natCast_zero, List.cons_append, List.nil_append] at g1
    refine ⟨⟨0, k2Env (.slice row off xs.length cap) gv seed (.osl 1 0 1 (L.length + 1) none) (i + 1), plMem W2 B' e' (.flat (irow (L ++ [e])) false)⟩, W2, B', _, L ++ [e], ?_, hk1, ?_⟩
    · generalize szOf xs i = n at *
      simp -implicitDefEqProofs [-intBin, b_lss, b_neq, b_add, x317L2, hel, e2, e3, e4, hil, ha, hl, hbl, hl2, g1, h6, q1, q2, q3, q4, exAppendX, exAppend, elems]
    · simp -implicitDefEqProofs [hl2, hL']
end
end Go.EX

