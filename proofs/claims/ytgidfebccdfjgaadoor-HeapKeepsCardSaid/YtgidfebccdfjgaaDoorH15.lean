import Derived.Test.YtgidfebccdfjgaaDoorH12
import Derived.Test.YtgidfebccdfjgaaDoorL1d
set_option linter.unusedVariables false
set_option linter.unusedSimpArgs false
namespace Go.EX
def wvOf (seed i k : Nat) : Nat := ((seed + i * 1000) % 18446744073709551616 + k) % 18446744073709551616
theorem wvOf_lt (seed i k : Nat) : wvOf seed i k < 18446744073709551616 := Nat.mod_lt _ (by decide)
theorem wvOf_bin (seed i k : Nat) (hi : i ≤ 200) (hk : k ≤ 255) (hs : seed < 18446744073709551616) : ∃ m a v : Nat, v = wvOf seed i k ∧ IntKind.wrap .u64 (i : Int) = i ∧ IntKind.wrap .u64 (k : Int) = k ∧ intBin .mul .u64 (i : Int) 1000 = some (.int .u64 m) ∧ intBin .add .u64 (seed : Int) m = some (.int .u64 a) ∧ intBin .add .u64 (a : Int) k = some (.int .u64 v) := by
  refine ⟨i * 1000, (seed + i * 1000) % 18446744073709551616, _, rfl, wrapU64 (by omega) (by omega), wrapU64 (by omega) (by omega), ?_, ?_, ?_⟩
  · show some (Value.int IntKind.u64 (IntKind.wrap .u64 ((i : Int) * 1000))) = _
    rw [wrapU64 (by omega) (by omega)]
    congr 2
  · show some (Value.int IntKind.u64 (IntKind.wrap .u64 ((seed : Int) + ((i * 1000 : Nat) : Int)))) = _
    congr 2
  · show some (Value.int IntKind.u64 (IntKind.wrap .u64 ((((seed + i * 1000) % 18446744073709551616 : Nat) : Int) + (k : Int)))) = _
    congr 2
def irow (L : List Nat) : List IV := L.map i64v
theorem irow_get {L : List Nat} {i y : Nat} (h : L[i]? = some y) : (irow L)[i]? = some (i64v y) := by simp [irow, h]
theorem irow_at {L : List Nat} {i y : Nat} (h : L[i]? = some y) : ∀ hh : i < (irow L).length, (irow L)[i] = i64v y := fun hh => by
  have := irow_get h
  rw [List.getElem?_eq_getElem hh] at this
  exact Option.some.inj this
theorem irow_len (L : List Nat) : (irow L).length = L.length := by simp [irow]
theorem irow_set (L : List Nat) (i y : Nat) : (irow L).set i (i64v y) = irow (L.set i y) := by simp [irow]
theorem irow_snoc (L : List Nat) (y : Nat) : irow L ++ [i64v y] = irow (L ++ [y]) := by simp [irow]
section
variable {code : Nat → Option XFun} {ext : Calls'}
abbrev k1Env (sv gv : IV) (seed n i p k : Nat) : Env := [(0, .imm sv), (1, .imm gv), (2, uint64 seed), (7, .optr 0 0), (9, .osl 1 0 1 n none), (10, int64 i), (11, int64 p), (13, int64 k)]
set_option maxHeartbeats 1000000 in
theorem k1_step (c : Heaps code ext) {sv gv : IV} {xs : List Int} (hr : Reads (tInt .u8) sv xs) {i n : Nat} (hx : xs[i]? = some (n : Int)) (hi200 : i < 200) (hn : n ≤ 255) {seed : Nat} (hseed : seed < 18446744073709551616)
    {W B : List Nat} {e p k N : Nat} (hi : HI W B e) (hb : bitAt B p = true) (hd1 : hd W p = n) (hk : k < n) {L : List Nat} :
    ∃ s', den code ext x317L1 ⟨0, k1Env sv gv seed N i p k, plMem W B e (.flat (irow L) false)⟩ = some (.normal, s') ∧ s'.tidy [0, 1, 2, 7, 9, 10, 11, 13] = ⟨0, k1Env sv gv seed N i p (k + 1), plMem (W.set (p + 1 + k) (wvOf seed i k)) B e (.flat (irow L) false)⟩ := by
  have hil := (List.getElem?_eq_some_iff.1 hx).1
  obtain ⟨row, off, cap, rfl, _, _, hcut⟩ := reads_pos hr hx
  have hel : row[off + i]? = some (.val (.int .u8 (n : Int))) := cut_one (by simpa [tInt] using hcut)
  have hlen : xs.length ≤ 140737488355328 := hr.2.1
  obtain ⟨m, a, v, hv, b1, b2, b3, b4, b5⟩ := wvOf_bin seed i k (by omega) (by omega) hseed
  rw [← hv]
  have ob := hi.obj hb
  rw [hd1] at ob
  have hw := write_obj (ext := ext) c.small c.c178 ob (k := k) (v := v) hk
  have e1 : (k : Int) < n := by omega
  have e2 : IntKind.wrap .i64 (n : Int) = n := wrapI64 (by omega) (by omega)
  have e3 : IntKind.wrap .i64 ((k : Int) + 1) = (k : Int) + 1 := wrapI64 (by omega) (by omega)
  have e4 : (i : Int) < xs.length := by omega
  have hl : (W.set (p + 1 + k) v).length = W.length := List.length_set ..
  generalize W.set (p + 1 + k) v = W' at *
  simp only [hMem, hl] at hw
  refine ⟨⟨0, k1Env (.slice row off xs.length cap) gv seed N i p (k + 1), plMem W' B e (.flat (irow L) false)⟩, ?_, ?_⟩
  · simp -implicitDefEqProofs [-intBin, b_lss, b_neq, b_add .i64, x317L1, hel, e1, e2, e3, e4, hil, hk, b1, b2, b3, b4, b5, hw, hl]
  · simp -implicitDefEqProofs [hl]
end
end Go.EX

