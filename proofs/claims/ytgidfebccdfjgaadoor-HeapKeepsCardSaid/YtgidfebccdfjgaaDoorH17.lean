import Derived.Test.YtgidfebccdfjgaaDoorH16
set_option linter.unusedVariables false
set_option linter.unusedSimpArgs false
namespace Go.EX
def goneOf (gs : List Bool) (i : Nat) : Bool := (gs[i]?).getD false
section
variable {code : Nat → Option XFun} {ext : Calls'}
theorem move_yes (c : Heaps code ext) {W B : List Nat} {e : Nat} (hi : HI W B e) {f t : Nat} (hb : bitAt B f = true) (ht : t ≤ f) (hc : Clear W B t) :
    ∃ B', Cleared B t (f + 1) B' ∧ callW code ext 172 [.optr 0 0, int64 f, int64 t] (hMem W B e) = some (int64 0, hMem (setAll W t ((W.drop f).take (hd W f + 1))) (setBit B' t) e) := by
  have hin := hi.inn f hb
  have htop := hi.top
  have hbd := hi.bd
  obtain ⟨w, g1, g2⟩ := within_spec (ext := ext) c.small c.c187 c.lz hi t (by omega)
  have hw : w = false := by
    cases w with
    | false => rfl
    | true => exact absurd (g2.1 rfl) ((hi.clear_iff (by omega)).1 hc)
  subst hw
  exact move_ok c hi f t (hd W f + 1) hb rfl ht g1
theorem cut_yes (c : Heaps code ext) {W B : List Nat} {e : Nat} (hi : HI W B e) {t : Nat} (ht : t ≤ e) (hc : Clear W B t) :
    ∃ B', Cleared B t e B' ∧ callW code ext 170 [.optr 0 0, int64 t] (hMem W B e) = some (int64 0, hMem W B' t) := by
  have htop := hi.top
  have hbd := hi.bd
  obtain ⟨w, g1, g2⟩ := within_spec (ext := ext) c.small c.c187 c.lz hi t (by omega)
  have hw : w = false := by
    cases w with
    | false => rfl
    | true => exact absurd (g2.1 rfl) ((hi.clear_iff (by omega)).1 hc)
  subst hw
  exact cut_ok c hi t ht g1
abbrev k3Env (sv gv : IV) (seed n to i : Nat) : Env := [(0, .imm sv), (1, .imm gv), (2, uint64 seed), (7, .optr 0 0), (9, .osl 1 0 1 n none), (14, int64 to), (15, int64 i)]
set_option maxHeartbeats 2000000 in
theorem k3_step (c : Heaps code ext) {sv gv : IV} {xs : List Int} {gs : List Bool} (hr : Reads (tInt .u8) sv xs) (hg : Reads tBool gv gs) {i : Nat} (hil : i < xs.length) {seed : Nat}
    {W B : List Nat} {e to : Nat} {L : List Nat} (h : K3 W B e L (szOf xs) (wvOf seed) (goneOf gs) xs.length i to) :
    ∃ s' W' B' L' to', den code ext x317L3 ⟨0, k3Env sv gv seed xs.length to i, plMem W B e (.flat (irow L) false)⟩ = some (.normal, s') ∧ K3 W' B' e L' (szOf xs) (wvOf seed) (goneOf gs) xs.length (i + 1) to' ∧
      s'.tidy [0, 1, 2, 7, 9, 14, 15] = ⟨0, k3Env sv gv seed xs.length to' (i + 1), plMem W' B' e (.flat (irow L') false)⟩ := by
  obtain ⟨hx, hn⟩ := sz_ok hr hil
  have hlen := h.len
  have htop := h.hi.top
  have hln := h.ln
  have hglen := reads_len hg
  have hrow : ∃ row off cap, sv = .slice row off xs.length cap ∧ row[off + i]? = some (.val (.int .u8 (szOf xs i : Int))) := by
    obtain ⟨row, off, cap, hiv, _, _, hcut⟩ := reads_pos hr hx
    exact ⟨row, off, cap, hiv, cut_one (by simpa [tInt] using hcut)⟩
  obtain ⟨row, off, cap, rfl, hel⟩ := hrow
  have hlenx : xs.length ≤ 140737488355328 := hr.2.1
  have e2 : IntKind.wrap .i64 (szOf xs i : Int) = szOf xs i := wrapI64 (by omega) (by omega)
  have e3 : IntKind.wrap .i64 ((i : Int) + 1) = (i : Int) + 1 := wrapI64 (by omega) (by omega)
  have e4 : (i : Int) < xs.length := by omega
  have hiL : i < L.length := by omega
  have hgc : goneOf gs i = true ∨ goneOf gs i = false := by cases goneOf gs i <;> simp
  rcases hgc with hgi | hgi
  · have hig : i < gs.length := by
      apply Classical.byContradiction; intro hc
      rw [goneOf, List.getElem?_eq_none (by omega)] at hgi; cases hgi
    have hgx : gs[i]? = some true := by
      rw [goneOf, List.getElem?_eq_getElem hig, Option.getD_some] at hgi
      rw [List.getElem?_eq_getElem hig, hgi]
    obtain ⟨grow, goff, gcap, rfl, _, _, gcut⟩ := reads_pos hg hgx
    have hgel : grow[goff + i]? = some (.val (.bool true)) := cut_one (by simpa [tBool] using gcut)
    have e5 : (i : Int) < gs.length := by omega
    refine ⟨⟨0, k3Env (.slice row off xs.length cap) (.slice grow goff gs.length gcap) seed xs.length to (i + 1), plMem W B e (.flat (irow L) false)⟩, W, B, L, to, ?_, h.skip hgi, ?_⟩
    · simp -implicitDefEqProofs [-intBin, b_lss, b_neq, b_add, x317L3, hel, hgel, e2, e3, e4, e5, hil, hig, hiL]
    · simp -implicitDefEqProofs []
  · obtain ⟨f, hf⟩ : ∃ f, L[i]? = some f := ⟨_, List.getElem?_eq_getElem hiL⟩
    have hb := (h.has i f hf (.inl (Nat.le_refl _))).1
    have hsz := (h.has i f hf (.inl (Nat.le_refl _))).2.1
    have hup := h.up i f hf (Nat.le_refl _)
    have hin := h.hi.inn f hb
    obtain ⟨B', hB, ha⟩ := move_yes (ext := ext) c h.hi hb hup h.clear
    have hm := h.move hgi hf hB
    have hl : (setAll W to ((W.drop f).take (hd W f + 1))).length = W.length := by rw [setAll_len]
    have hbl : (setBit B' to).length = B.length := by simp [setBit, hB.len]
    have q1 := irow_get hf
    have q2 := irow_at hf
    have q3 := irow_len L
    have q4 : setAll (irow L) i [i64v to] = irow (L.set i to) := irow_set L i to
    have e8 : i + 1 ≤ xs.length := hil
    have hLs : (L.set i to).length = L.length := List.length_set ..
    have e6 : IntKind.wrap .i64 ((to : Int) + szOf xs i) = (to : Int) + szOf xs i := wrapI64 (by omega) (by omega)
    have e7 : IntKind.wrap .i64 ((to : Int) + szOf xs i + 1) = (to : Int) + szOf xs i + 1 := wrapI64 (by omega) (by omega)
    generalize setAll W to ((W.drop f).take (hd W f + 1)) = W' at *
    generalize setBit B' to = B2 at *
    simp only [hMem, hl, hbl] at ha
    by_cases hig : i < gs.length
    · have hgx : gs[i]? = some false := by
        rw [goneOf, List.getElem?_eq_getElem hig, Option.getD_some] at hgi
        rw [List.getElem?_eq_getElem hig, hgi]
      obtain ⟨grow, goff, gcap, rfl, _, _, gcut⟩ := reads_pos hg hgx
      have hgel : grow[goff + i]? = some (.val (.bool false)) := cut_one (by simpa [tBool] using gcut)
      have e5 : (i : Int) < gs.length := by omega
      refine ⟨⟨0, k3Env (.slice row off xs.length cap) (.slice grow goff gs.length gcap) seed xs.length (to + szOf xs i + 1) (i + 1), plMem W' B2 e (.flat (irow (L.set i to)) false)⟩, W', B2, L.set i to, _, ?_, hm, ?_⟩
      · generalize szOf xs i = n at *
        simp -implicitDefEqProofs [-intBin, b_lss, b_neq, b_add, x317L3, hel, hgel, e2, e3, e4, e5, e6, e7, hil, hig, hiL, ha, hl, hbl, q1, q2, q3, q4, e8, hln]
      · simp -implicitDefEqProofs [hl, hbl]
    · have e5 : ¬ ((i : Int) < gs.length) := by omega
      refine ⟨⟨0, k3Env (.slice row off xs.length cap) gv seed xs.length (to + szOf xs i + 1) (i + 1), plMem W' B2 e (.flat (irow (L.set i to)) false)⟩, W', B2, L.set i to, _, ?_, hm, ?_⟩
      · generalize szOf xs i = n at *
        simp -implicitDefEqProofs [-intBin, b_lss, b_neq, b_add, x317L3, hel, hglen, e2, e3, e4, e5, e6, e7, hil, hig, hiL, ha, hl, hbl, q1, q2, q3, q4, e8, hln]
      · simp -implicitDefEqProofs [hl, hbl]
end
end Go.EX

