/-
  EX: law 09: VerifyNames: lines are made 0.
-/
import Derived.Test.YtfmpeoickjggiaaV9yb
set_option linter.unusedVariables false
set_option linter.unusedSimpArgs false
namespace Go.EX

theorem tidy_rows0 {o : AObj} {los : List AObj} (h : Rows1 o los) (hl : los.length ≤ 10000000) (e : Env) (keep : List Nat) (hr : (e.keep keep).roots = [0]) (hren : ∀ f : Nat → Option Nat, f 0 = some 0 → (e.keep keep).ren f = e.keep keep) :
    St.tidy ⟨0, e, o :: los⟩ keep = ⟨0, e.keep keep, o :: los⟩ := by
  have := tidy_rows (junk := []) h hl e keep hr hren
  rwa [List.append_nil] at this

theorem mid_get {β : Type} (A B : List β) (x : β) {i : Nat} (h : A.length = i) : (A ++ x :: B)[i]? = some x := by
  subst h; simp

theorem mid_set {β : Type} (A B : List β) (x y : β) {i : Nat} (h : A.length = i) : (A ++ x :: B).set i y = A ++ y :: B := by
  subst h; simp

set_option maxRecDepth 100000 in
theorem lines_loop (pv : IV) (n i : Nat) (cells : List AV) (A B : List AObj) (L : List Int) (hA : A.length = i) (hn : n ≤ 1048576) (hAB : A.length + 1 + B.length = n) (hL : L.length ≤ 1048576)
    (hcell : cells[i * 8 + 6]? = some (.osl (i + 1) 0 1 L.length (some (L.length + 1)))) (hrefs : AV.refs.refsL cells = (List.range n).map (· + 1)) (hfA : ∀ l ∈ A, ∃ cs mv, l = AObj.flat cs mv) (hfB : ∀ l ∈ B, ∃ cs mv, l = AObj.flat cs mv)
    {st : St} (hst : st.tidy [0, 3, 4, 5] = ⟨0, [(0, .imm pv), (3, .osl 0 0 8 n (some (n + 1))), (4, int64 i), (5, int64 0)], .rich cells :: (A ++ .flat (rowI (L ++ [7777])) false :: B)⟩) :
    ∃ e s', den code9 (extInsert 766) (.loop [0, 3, 4, 5] x464L1) st = some (e, s') ∧ e ≠ .normal ∧
      ((e = .ret ∧ ∃ mem, s' = ⟨0, [(2, avb true)], mem⟩) ∨
       (e = .exit 2 ∧ (∀ x ∈ L, 0 ≤ x) ∧ s' = ⟨0, [(0, .imm pv), (3, .osl 0 0 8 n (some (n + 1))), (4, int64 i), (5, int64 L.length), (34, avb false)], .rich cells :: (A ++ .flat (rowI (List.replicate L.length 0 ++ [7777])) false :: B)⟩)) := by
  have hrows : ∀ cs, Rows1 (.rich cells) (A ++ .flat cs false :: B) := fun cs => ⟨by rw [AObj.refs, hrefs]; congr 2; simp; omega, fun l hl => by
    rcases List.mem_append.1 hl with h | h
    · exact hfA l h
    · rcases List.mem_cons.1 h with rfl | h
      · exact ⟨_, _, rfl⟩
      · exact hfB l h⟩
  refine loop_rule (fun m s => ∃ k, k + m = L.length ∧ (∀ x ∈ L.take k, 0 ≤ x) ∧ s.tidy [0, 3, 4, 5] = ⟨0, [(0, .imm pv), (3, .osl 0 0 8 n (some (n + 1))), (4, int64 i), (5, int64 (k : Nat))], .rich cells :: (A ++ .flat (rowI (List.replicate k 0 ++ L.drop k ++ [7777])) false :: B)⟩) _ ?_ L.length _ ⟨0, by simp, by simp, by simpa using hst⟩
  clear hst
  rintro m s ⟨k, hk, hpos, hst⟩
  rw [hst]
  have hi : (i : Int) < n := by omega
  have hmg := fun cs : List IV => mid_get A B (.flat cs false) hA
  have hms := fun (x y : AObj) => mid_set A B x y hA
  by_cases hlt : k < L.length
  · have hlt' : (k : Int) < L.length := by omega
    have e1 : IntKind.wrap .i64 ((k : Int) + 1) = (k : Int) + 1 := wrapI64 (by omega) (by omega)
    have hdrop : L.drop k = L[k] :: L.drop (k + 1) := List.drop_eq_getElem_cons hlt
    have htake : L.take (k + 1) = L.take k ++ [L[k]] := by rw [List.take_add_one, List.getElem?_eq_getElem hlt]; rfl
    generalize L[k] = x at hdrop htake
    have hrep : (List.replicate k (0 : Int)).length = k := by simp
    have hget : (rowI (List.replicate k 0 ++ L.drop k ++ [7777]))[k]? = some (.val (.int .i64 x)) := by
      rw [rowI_get, hdrop, List.append_assoc, List.cons_append, mid_get _ _ _ hrep]; rfl
    have hset : (rowI (List.replicate k 0 ++ L.drop k ++ [7777])).set k (.val (.int .i64 0)) = rowI (List.replicate (k + 1) 0 ++ L.drop (k + 1) ++ [7777]) := by
      rw [rowI_set, hdrop, List.append_assoc, List.cons_append, mid_set _ _ _ _ hrep, List.replicate_succ']
      simp
    have hlen : (rowI (List.replicate k 0 ++ L.drop k ++ [7777])).length = L.length + 1 := by rw [rowI_len]; simp; omega
    have hfit : k + 1 ≤ (rowI (List.replicate k 0 ++ L.drop k ++ [7777])).length := by omega
    by_cases hx : x < 0
    · refine ⟨.ret, ⟨0, [(2, avb true)], .rich cells :: (A ++ .flat (rowI (List.replicate k 0 ++ L.drop k ++ [7777])) false :: B)⟩, ?_, .inr ⟨by simp, .inl ⟨rfl, _, rfl⟩⟩⟩
      generalize rowI (List.replicate k 0 ++ L.drop k ++ [7777]) = R at hget hset hfit
      simp -implicitDefEqProofs [x464L1, hlt', hlt, hi, hcell, hmg, hms, hget, hx]
    · refine ⟨.normal, ⟨0, [(0, .imm pv), (3, .osl 0 0 8 n (some (n + 1))), (4, int64 i), (5, int64 ((k : Int) + 1))], .rich cells :: (A ++ .flat (rowI (List.replicate (k + 1) 0 ++ L.drop (k + 1) ++ [7777])) false :: B)⟩, ?_, .inl ⟨rfl, m - 1, by omega, k + 1, by omega, fun y hy => ?_, ?_⟩⟩
      · generalize rowI (List.replicate (k + 1) 0 ++ L.drop (k + 1) ++ [7777]) = R2 at hset ⊢
        generalize rowI (List.replicate k 0 ++ L.drop k ++ [7777]) = R at hget hset hfit ⊢
        simp -implicitDefEqProofs [x464L1, hlt', hlt, hi, hcell, hmg, hms, hget, hx, hset, hfit, e1, setAll]
      · rw [htake, List.mem_append, List.mem_singleton] at hy
        rcases hy with hy | rfl
        · exact hpos y hy
        · omega
      · rw [tidy_rows0 (hrows _) (by simp; omega) _ _ (by simp) (fun f hf => by simp [hf])]
        simp
  · have hkL : k = L.length := by omega
    subst hkL
    refine ⟨.exit 2, ⟨0, [(0, .imm pv), (3, .osl 0 0 8 n (some (n + 1))), (4, int64 i), (5, int64 L.length), (34, avb false)], .rich cells :: (A ++ .flat (rowI (List.replicate L.length 0 ++ [7777])) false :: B)⟩, ?_, .inr ⟨by simp, .inr ⟨rfl, by simpa using hpos, rfl⟩⟩⟩
    simp only [List.drop_length, List.append_nil]
    generalize rowI (List.replicate L.length 0 ++ [7777]) = R
    simp -implicitDefEqProofs [x464L1, hi, hcell]

end Go.EX
