/-
  EX: copies with room behind them (the statements' Twin.. of structs), whatever the struct.
-/
import Derived.Test.YtbomedbbgfcncaaSim
set_option linter.unusedVariables false
set_option linter.unusedSimpArgs false
namespace Go.EX

section
variable {code : Nat → Option XFun} {ext : Calls'}



/-- What is copied, zeros behind. -/
def Ty.part {α : Type} (t : Ty α) (z : α) (xs : List α) (n : Nat) : List IV := t.row (xs ++ List.replicate n z)

theorem part_len {α : Type} (t : Ty α) (z : α) (xs : List α) (n : Nat) : (t.part z xs n).length = (xs.length + n) * t.sz := by
  unfold Ty.part; rw [row_len]; simp

theorem part_set {α : Type} (t : Ty α) (h0 : 0 < t.sz) (z : α) (xs : List α) (n : Nat) (x : α) : setAll (t.part z xs (n + 1)) (xs.length * t.sz) (t.enc x) = t.part z (xs ++ [x]) n := by
  unfold Ty.part
  rw [setAll_flat h0 (by simp)]
  congr 1
  rw [List.set_append_right _ _ (Nat.le_refl _)]
  simp [List.replicate_succ]

def twinL (sz bytes : Nat) (zs : List Value) : XCode :=
  (.seq (.seq (.region [0, 3, 4, 12] [⟨(some 9), .mv (.t 4), none⟩,
    ⟨(some 10), .mv (.t 0), none⟩,
    ⟨(some 11), .len (.t 10), none⟩,
    ⟨(some 12), .bin .lss (.t 9) (.t 11), none⟩])
  (.cond (.t 12)
    .skip
    (.exit 0)))
  (.seq (.block 1 (.region [0, 3, 4] [⟨(some 15), .mv (.t 3), none⟩,
    ⟨(some 16), .mv (.t 0), none⟩,
    ⟨(some 17), .mv (.t 4), none⟩,
    ⟨(some 18), .idxA sz (.t 16) (.t 17), none⟩,
    ⟨(some 19), .load (some sz) (.t 18), none⟩,
    ⟨(some 20), .buildSlice sz zs 1 [(0, sz, (.t 19))], none⟩,
    ⟨(some 21), .append sz bytes (.t 15) (.t 20), none⟩,
    ⟨(some 3), .mv (.t 21), none⟩]))
  (.region [0, 3, 4] [⟨(some 13), .mv (.t 4), none⟩,
    ⟨(some 14), .bin .add (.t 13) (.c (.int .i64 1)), none⟩,
    ⟨(some 4), .mv (.t 14), none⟩])))

def twinF (sz bytes : Nat) (zs : List Value) (k : Nat) (v : Value) : XFun := ⟨[.tmp 2],
  (.seq (.region [0] [⟨(some 2), .mv (.c (.slice none 0 0)), none⟩])
  (.seq (.region [0, 3] [⟨(some 5), .mv (.t 0), none⟩,
    ⟨(some 6), .len (.t 5), none⟩,
    ⟨(some 7), .bin .add (.t 6) (.c (.int .i64 1)), none⟩,
    ⟨(some 8), .makeSlice sz bytes zs (.c (.int .i64 0)) (.t 7), none⟩,
    ⟨(some 3), .mv (.t 8), none⟩])
  (.seq (.seq (.region [0, 3, 4] [⟨(some 4), .mv (.c (.int .i64 0)), none⟩])
  (.block 0 (.loop [0, 3, 4] (twinL sz bytes zs))))
  (.seq (.region [2] [⟨(some 22), .mv (.t 3), none⟩,
    ⟨(some 23), (.build zs [(k, 1, (.c v))]), none⟩,
    ⟨(some 24), .buildSlice sz zs 1 [(0, sz, (.t 23))], none⟩,
    ⟨(some 25), .append sz bytes (.t 22) (.t 24), none⟩,
    ⟨(some 26), .mv (.t 0), none⟩,
    ⟨(some 27), .len (.t 26), none⟩,
    ⟨(some 28), .slice sz (.t 25) none (some (.t 27)), none⟩,
    ⟨(some 2), .mv (.t 28), none⟩])
  .ret))))⟩

section
variable {α : Type} (t : Ty α) (z sp : α) (bytes : Nat) (zs : List Value)

theorem one_imms (hz : zs.map IV.val = t.enc z) (x : α) : imms (setAll (zs.map fun z => AV.imm (.val z)) 0 ((t.enc x).map AV.imm)) = some (t.enc x) := by
  have h1 : zs.length = t.sz := by rw [← t.len z, ← hz]; simp
  rw [setAll_whole _ _ (by simp [h1, t.len])]
  simp

theorem twin_loop (h0 : 0 < t.sz) (hz : zs.map IV.val = t.enc z) (iv : IV) (xs : List α) (h : Reads t iv xs) {s : St} (hb : xs.length < 9223372036854775807)
    (hst : s.tidy [0, 3, 4] = ⟨0, [(0, .imm iv), (3, .osl 0 0 t.sz 0 (some (xs.length + 1))), (4, int64 0)], [.flat (t.part z [] (xs.length + 1)) false]⟩) :
    ∃ e s', den code ext (.loop [0, 3, 4] (twinL t.sz bytes zs)) s = some (e, s') ∧ e ≠ .normal ∧
      (e = .exit 0 ∧ s' = ⟨0, [(0, .imm iv), (3, .osl 0 0 t.sz xs.length (some (xs.length + 1))), (4, int64 xs.length), (12, avb false)], [.flat (t.part z xs 1) false]⟩) := by
  refine loop_rule (fun n s => ∃ i, i + n = xs.length ∧ s.tidy [0, 3, 4] = ⟨0, [(0, .imm iv), (3, .osl 0 0 t.sz i (some (xs.length + 1))), (4, int64 (i : Nat))], [.flat (t.part z (xs.take i) (n + 1)) false]⟩) _ ?_ xs.length _ ⟨0, by simp, by simpa using hst⟩
  clear hst
  rintro n s ⟨i, hi, hst⟩
  rw [hst]
  have hlen := reads_len h
  by_cases hlt : i < xs.length
  · obtain ⟨row, off, cap, rfl, hc, hcut, hget⟩ := reads_pos h (List.getElem?_eq_getElem hlt)
    have e1 : IntKind.wrap .i64 ((i : Int) + 1) = (i : Int) + 1 := wrapI64 (by omega) (by omega)
    obtain ⟨m, rfl⟩ : ∃ m, n = m + 1 := ⟨n - 1, by omega⟩
    have hlt' : (i : Int) < xs.length := by omega
    have hle : ((t.enc xs[i]).map AV.imm).length = t.sz := by rw [List.length_map, t.len]
    have hzl : (imZ (copies 1 zs)).length = t.sz := by rw [← t.len z, ← hz]; simp [imZ]
    have hel : ∀ (A B : List IV), elems [.flat A false, .flat (t.enc xs[i]) false] t.sz (.osl 1 0 t.sz 1 (some 1)) = some (1, t.enc xs[i]) := by
      intro A B
      simp only [elems, List.getElem?_cons_succ, List.getElem?_cons_zero, Nat.one_mul]
      rw [cut_all _ (t.len _)]; rfl
    have htk : xs.take (i + 1) = xs.take i ++ [xs[i]] := by rw [List.take_add_one, List.getElem?_eq_getElem hlt]; rfl
    have hset := part_set t h0 z (xs.take i) (m + 1) xs[i]
    have hti : (xs.take i).length = i := by rw [List.length_take]; omega
    rw [hti, ← htk] at hset
    have hfit : (i + 1) * t.sz ≤ (t.part z (xs.take i) (m + 1 + 1)).length := by
      rw [part_len, hti]; exact Nat.mul_le_mul_right _ (by omega)
    have hap : exAppendX ⟨0, [(20, .osl 1 0 t.sz 1 (some 1)), (19, .agg ((t.enc xs[i]).map AV.imm)), (18, .imm (.ptr row (off + i * t.sz))), (17, int64 (i : Nat)), (16, .imm (.slice row off xs.length cap)), (15, .osl 0 0 t.sz i (some (xs.length + 1))),
        (0, .imm (.slice row off xs.length cap)), (3, .osl 0 0 t.sz i (some (xs.length + 1))), (4, int64 (i : Nat)), (12, avb true)], [.flat (t.part z (xs.take i) (m + 1 + 1)) false, .flat (t.enc xs[i]) false]⟩ t.sz bytes (.osl 0 0 t.sz i (some (xs.length + 1))) (.osl 1 0 t.sz 1 (some 1)) =
        some (.osl 0 0 t.sz (i + 1) (some (xs.length + 1)), ⟨0, [(20, .osl 1 0 t.sz 1 (some 1)), (19, .agg ((t.enc xs[i]).map AV.imm)), (18, .imm (.ptr row (off + i * t.sz))), (17, int64 (i : Nat)), (16, .imm (.slice row off xs.length cap)), (15, .osl 0 0 t.sz i (some (xs.length + 1))),
        (0, .imm (.slice row off xs.length cap)), (3, .osl 0 0 t.sz i (some (xs.length + 1))), (4, int64 (i : Nat)), (12, avb true)], [.flat (t.part z (xs.take (i + 1)) (m + 1)) false, .flat (t.enc xs[i]) false]⟩) := by
      simp only [exAppendX, exAppend, hel _ []]
      simp [hset, hfit, show i + 1 ≤ xs.length + 1 by omega]
    refine ⟨.normal, ⟨0, [(0, .imm (.slice row off xs.length cap)), (3, .osl 0 0 t.sz (i + 1) (some (xs.length + 1))), (4, int64 ((i : Int) + 1))], [.flat (t.part z (xs.take (i + 1)) (m + 1)) false, .flat (t.enc xs[i]) false]⟩, ?_, .inl ⟨rfl, m, by omega, i + 1, by omega, ?_⟩⟩
    · have hone' := one_imms t z zs hz xs[i]
      have hzs : zs.length = t.sz := by rw [← t.len z, ← hz]; simp
      have hl2 := t.len xs[i]
      simp -implicitDefEqProofs [twinL, hlt', hlt, hget, hl2, hzs, hone', hap, e1]
    · simp -implicitDefEqProofs
  · have : i = xs.length := by omega
    subst this
    refine ⟨.exit 0, ⟨0, [(0, .imm iv), (3, .osl 0 0 t.sz xs.length (some (xs.length + 1))), (4, int64 xs.length), (12, avb false)], [.flat (t.part z xs 1) false]⟩, ?_, .inr ⟨by simp, rfl, rfl⟩⟩
    have : n = 0 := by omega
    subst this
    simp -implicitDefEqProofs [twinL, hlen]

theorem twin_spec (h0 : 0 < t.sz) (hz : zs.map IV.val = t.enc z) (hzs : ∀ v ∈ zs, v.oneCell' = true) (k : Nat) (v : Value) (hk : k + 1 ≤ t.sz) (hp : setAll (zs.map fun z => AV.imm (.val z)) k [.imm (.val v)] = (t.enc sp).map .imm)
    {g : Nat} (hg : code g = some (twinF t.sz bytes zs k v)) {iv : IV} {xs : List α} (h : Reads t iv xs) (hb1 : xs.length < 9223372036854775807) (hb2 : bytes * (xs.length + 1) ≤ 281474976710656) :
    callW code ext g [.imm iv] [] = some (.osl 0 0 t.sz xs.length (some (xs.length + 1)), [.flat (t.row (xs ++ [sp])) false]) := by
  rw [callW_fun code ext hg]
  have hcp : copies (xs.length + 1) (zs.map IV.val) = t.part z [] (xs.length + 1) := by rw [hz, copies_flat]; rfl
  obtain ⟨e, s', h1, _, rfl, rfl⟩ := twin_loop (code := code) (ext := ext) t z bytes zs h0 hz iv xs h (s := ⟨0, [(0, .imm iv), (3, .osl 0 0 t.sz 0 (some (xs.length + 1))), (4, int64 0)], [.flat (t.part z [] (xs.length + 1)) false]⟩) hb1 (by simp -implicitDefEqProofs)
  have hlen := reads_len h
  have e1 : IntKind.wrap .i64 ((xs.length : Int) + 1) = (xs.length : Int) + 1 := wrapI64 (by omega) (by omega)
  have e2 : (0 : Int) ≤ (xs.length : Int) + 1 := by omega
  have e3 : (bytes : Int) * ((xs.length : Int) + 1) ≤ 281474976710656 := by
    have : ((bytes * (xs.length + 1) : Nat) : Int) ≤ 281474976710656 := by omega
    simpa using this
  have e4 : (xs.length : Int) + 1 ≤ 9223372036854775807 := by omega
  have e6 : (xs.length : Int) ≤ (xs.length : Int) + 1 := by omega
  have e5 : ((xs.length : Int) + 1).toNat = xs.length + 1 := by omega
  have hzl : zs.length = t.sz := by rw [← t.len z, ← hz]; simp
  have hone' := one_imms t z zs hz sp
  have hl2 := t.len sp
  have hel : ∀ (A B : List IV), elems [.flat A false, .flat (t.enc sp) false] t.sz (.osl 1 0 t.sz 1 (some 1)) = some (1, t.enc sp) := by
    intro A B
    simp only [elems, List.getElem?_cons_succ, List.getElem?_cons_zero, Nat.one_mul]
    rw [cut_all _ (t.len _)]; rfl
  have hset := part_set t h0 z xs 0 sp
  have hfin : t.part z (xs ++ [sp]) 0 = t.row (xs ++ [sp]) := by unfold Ty.part; simp
  have hfit : (xs.length + 1) * t.sz ≤ (t.part z xs (0 + 1)).length := by rw [part_len]; exact Nat.le_refl _
  rw [hfin] at hset
  simp only [Nat.zero_add] at hset hfit
  simp -implicitDefEqProofs [twinF, hlen, e6, e1, e2, e3, e4, e5, hcp, h1, hp, hk, hzl, hl2, hone', exAppendX, exAppend, hel _ [], hset, hfit, exSlice]

end
end
end Go.EX
