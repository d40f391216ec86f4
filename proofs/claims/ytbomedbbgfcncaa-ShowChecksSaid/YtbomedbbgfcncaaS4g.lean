/-
  EX: law 04: show's reach.
-/
import Derived.Test.YtbomedbbgfcncaaS4f
set_option linter.unusedVariables false
set_option linter.unusedSimpArgs false
namespace Go.EX

def ptrs (s : Nat) (out : List Nat) : List AV := out.map fun k => .optr s (k * 5)
def seenL (s : Nat) (out : List Nat) : List (AV × AV) := out.map fun k => (.optr s (k * 5), avb true)

@[simp] theorem renL_ptrs (f : Nat → Option Nat) (s : Nat) (out : List Nat) (h : (f s).isSome = true) : AV.ren.renL f (ptrs s out) = ptrs ((f s).getD 0) out := by
  obtain ⟨j, hj⟩ := Option.isSome_iff_exists.1 h
  rw [renL_eq]
  simp [ptrs, AV.ren, hj]

@[simp] theorem seen_ren (f : Nat → Option Nat) (s : Nat) (out : List Nat) (h : (f s).isSome = true) : List.map (fun p => (AV.ren f p.1, AV.ren f p.2)) (seenL s out) = seenL ((f s).getD 0) out := by
  obtain ⟨j, hj⟩ := Option.isSome_iff_exists.1 h
  simp [seenL, AV.ren, hj]

@[simp] theorem refs_ptrs (s : Nat) (out : List Nat) : AV.refs.refsL (ptrs s out) = List.replicate out.length s := by
  unfold ptrs
  induction out with
  | nil => rfl
  | cons x r ih => simp only [List.map_cons, AV.refs.refsL, ih, AV.refs, List.length_cons, List.replicate_succ]; rfl

@[simp] theorem refs_seen1 (s : Nat) (out : List Nat) : AV.refs.refsL (List.map (fun x => x.1) (seenL s out)) = List.replicate out.length s := by
  unfold seenL
  induction out with
  | nil => rfl
  | cons x r ih => simp only [List.map_cons, AV.refs.refsL, ih, AV.refs, List.length_cons, List.replicate_succ]; rfl

@[simp] theorem refs_seen2 (s : Nat) (out : List Nat) : AV.refs.refsL (List.map (fun x => x.2) (seenL s out)) = [] := by
  unfold seenL
  induction out with
  | nil => rfl
  | cons x r ih => simp only [List.map_cons, AV.refs.refsL, ih, AV.refs]; rfl

theorem reach_done (m : Mem) : ∀ (n : Nat) (todo acc : List Nat), (∀ x ∈ todo, x ∈ acc) → reach m n todo acc = acc
  | 0, _, _, _ => rfl
  | n + 1, [], _, _ => rfl
  | n + 1, x :: todo, acc, h => by
    rw [reach, if_pos (h x (List.mem_cons_self ..))]
    exact reach_done m n todo acc fun y hy => h y (List.mem_cons_of_mem _ hy)

@[simp] theorem reach_rep (m : Mem) (n a s : Nat) (acc : List Nat) (h : s ∈ acc) : reach m n (List.replicate a s) acc = acc :=
  reach_done m n _ acc fun x hx => by rw [List.eq_of_mem_replicate hx]; exact h
@[simp] theorem reach_rep2 (m : Mem) (n a b s t : Nat) (acc : List Nat) (h : s ∈ acc) (h' : t ∈ acc) : reach m n (List.replicate a s ++ List.replicate b t) acc = acc :=
  reach_done m n _ acc fun x hx => by
    rcases List.mem_append.1 hx with hx | hx
    · rw [List.eq_of_mem_replicate hx]; exact h
    · rw [List.eq_of_mem_replicate hx]; exact h'
@[simp] theorem reach_rep3 (m : Mem) (n a b c s t u : Nat) (acc : List Nat) (h : s ∈ acc) (h' : t ∈ acc) (h2 : u ∈ acc) : reach m n (List.replicate a s ++ (List.replicate b t ++ List.replicate c u)) acc = acc :=
  reach_done m n _ acc fun x hx => by
    rcases List.mem_append.1 hx with hx | hx
    · rw [List.eq_of_mem_replicate hx]; exact h
    · rcases List.mem_append.1 hx with hx | hx
      · rw [List.eq_of_mem_replicate hx]; exact h'
      · rw [List.eq_of_mem_replicate hx]; exact h2

theorem findK_ptr (s k : Nat) : ∀ (out : List Nat) (i : Nat),
    (k ∉ out ∧ ∀ m : Mem, ((m[s]?).getD .dead).hasCells = true → findK m 3 (.optr s (k * 5)) (seenL s out) i = some none) ∨
    (k ∈ out ∧ ∃ j, (∀ m : Mem, ((m[s]?).getD .dead).hasCells = true → findK m 3 (.optr s (k * 5)) (seenL s out) i = some (some (i + j))) ∧ (seenL s out)[j]? = some (.optr s (k * 5), avb true))
  | [], i => .inl ⟨by simp, fun _ _ => rfl⟩
  | x :: r, i => by
    by_cases h : k = x
    · subst h
      exact .inr ⟨by simp, 0, fun m hm => by simp [seenL, findK, keyEq, hm], rfl⟩
    · have h5 : ¬ k * 5 = x * 5 := by omega
      have hbq : (k * 5 == x * 5) = false := beq_eq_false_iff_ne.2 h5
      have hf : ∀ m : Mem, ((m[s]?).getD .dead).hasCells = true → findK m 3 (.optr s (k * 5)) (seenL s (x :: r)) i = findK m 3 (.optr s (k * 5)) (seenL s r) (i + 1) := fun m hm => by simp [seenL, findK, keyEq, hm, hbq]
      rcases findK_ptr s k r (i + 1) with ⟨h1, h2⟩ | ⟨h1, j, h2, h3⟩
      · exact .inl ⟨by simp [h, h1], fun m hm => by rw [hf m hm, h2 m hm]⟩
      · refine .inr ⟨by simp [h1], j + 1, fun m hm => ?_, h3⟩
        rw [hf m hm, h2 m hm]; congr 2; omega

theorem seenL_snoc (s k : Nat) (out : List Nat) : seenL s out ++ [(.optr s (k * 5), avb true)] = seenL s (out ++ [k]) := by simp [seenL]
theorem ptrs_snoc (s k : Nat) (out : List Nat) : ptrs s out ++ [.optr s (k * 5)] = ptrs s (out ++ [k]) := by simp [ptrs]
theorem cut_ptrs (s : Nat) (out : List Nat) : cut (ptrs s out) 0 out.length = some (ptrs s out) := cut_all _ (by simp [ptrs])

section
variable {code : Nat → Option XFun} {ext : Calls'}

def leadAV (s : Nat) : Option Nat → AV
  | some k => .optr s (k * 5)
  | none => .imm (.val (.pointer none))

/-- A store at work: these objects, and one behind. -/
def storeRow (T : List Obj) : List IV := tObj.row (T ++ [spObj])

theorem storeRow_get {T : List Obj} {p : Nat} {o : Obj} (h : T[p]? = some o) : cut (storeRow T) (p * 5) 5 = some [.val (.int .u8 o.k), .val (.string o.s), o.l.iv, .val (.int .i64 o.room), .val (.int .i64 o.fn)] := by
  have hlt := (List.getElem?_eq_some_iff.1 h).1
  exact flat_elem (t := tObj) (i := p) (x := o) (by rw [List.getElem?_append_left hlt]; exact h)

theorem leadsP_spec (h : code 651 = some x651) (T : List Obj) (hb : T.length ≤ 1048576) (v : Val) (hv : (tInt .i64).wf v.n) :
    callW code ext 651 [.osl 0 0 5 T.length (some (T.length + 1)), .agg [.imm (.val (.int .u8 v.k)), int64 v.n]] [.flat (storeRow T) false] = some (leadAV 0 (leadsOf T v), [.flat (storeRow T) false]) := by
  rw [callW_fun code ext h]
  unfold leadsOf
  by_cases c1 : v.k < 3
  · simp -implicitDefEqProofs [x651, c1, leadAV]
  by_cases c2 : 7 < v.k
  · simp -implicitDefEqProofs [x651, c1, c2, leadAV]
  by_cases c3 : v.n < 1
  · simp -implicitDefEqProofs [x651, c1, c2, c3, leadAV]
  by_cases c4 : (T.length : Int) < v.n
  · simp -implicitDefEqProofs [x651, c1, c2, c3, c4, leadAV]
  obtain ⟨vk, vn⟩ := v
  simp only at c1 c2 c3 c4 ⊢
  obtain ⟨p, rfl⟩ : ∃ p : Nat, vn = (p : Int) + 1 := ⟨(vn - 1).toNat, by omega⟩
  have hlt : p < T.length := by omega
  have hget := storeRow_get (List.getElem?_eq_getElem hlt)
  have ep : ((p : Int) + 1 - 1).toNat = p := by omega
  rw [if_neg c1, if_neg c2, if_neg c3, if_neg c4, ep, List.getElem?_eq_getElem hlt]
  generalize T[p] = o at hget
  have g0 : (storeRow T)[p * 5]? = some (.val (.int .u8 o.k)) := cut_get hget 0 (by omega)
  have e1 : IntKind.wrap .i64 (p : Int) = p := wrapI64 (by omega) (by omega)
  by_cases c5 : o.k = vk
  · simp -implicitDefEqProofs [x651, c1, c2, c3, c4, e1, g0, c5, hlt, leadAV]
  · simp -implicitDefEqProofs [x651, c1, c2, c3, c4, e1, g0, c5, hlt, leadAV]

end
end Go.EX
