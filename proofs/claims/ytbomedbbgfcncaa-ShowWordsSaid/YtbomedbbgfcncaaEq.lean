/-
  EX: structs held against one another; copy.
-/
import Derived.Test.YtbomedbbgfcncaaAppendR
import Derived.Laws.StructEq
set_option linter.unusedVariables false
set_option linter.unusedSimpArgs false
namespace Go.EX

section
variable {num : FuncId → Nat} {P : Program}
variable {ty : TypeId} {pos : String} {after : Array Edge} {a : Act} {C : Cx} {s : St}

theorem flat_some {t : TypeId} {ks : List Nat} (h : flatStruct P t = some ks) : ∃ fs, P.underlying t = some (.struct fs) ∧ P.stoodInHeld t = false ∧ P.eqGuardType P.depth t = false ∧ (∀ f ∈ fs.toList, f.name ≠ "_") ∧ fs.toList.map (·.offset) = List.range fs.size ∧ fs.toList.mapM (fun f => kindOf (P.underlying f.type)) = some ks := by
  unfold flatStruct at h
  split at h
  · rename_i fs ht
    split at h
    · rename_i hc
      simp only [Bool.and_eq_true, Bool.not_eq_true', beq_iff_eq] at hc
      obtain ⟨⟨⟨h1, h2⟩, h3⟩, h4⟩ := hc
      refine ⟨fs, ht, h1, h2, fun f hf => ?_, h4, h⟩
      rw [Array.all_eq_true_iff_forall_mem] at h3
      have := h3 f (by simpa using hf)
      simpa using this
    · cases h
  · cases h

theorem run_part_plain {t : TypeId} {k0 : Nat} (ht : kindOf (P.underlying t) = some k0) {us : Array Value} {k : Nat} {u : Value} (hu : us[k]? = some u) (w : World) : (part t us k).run P w = .ok u w := by
  have : (isAgg t).run P w = .ok false w := by
    unfold kindOf at ht
    split at ht <;> first | (rename_i h; simp [isAgg, run_underlying h]) | cases ht
  simp [part, this, hu]

theorem same_fields (d : Nat) {us vs : Array Value} (w : World) : ∀ (fs : List Field) (ks : List Nat) (k : Nat) (xs ys : List AV) (b : Bool), fs.map (·.offset) = List.range' k fs.length → (∀ f ∈ fs, f.name ≠ "_") → fs.mapM (fun f => kindOf (P.underlying f.type)) = some ks →
    (∀ (j : Nat) x, xs[j]? = some x → ∃ u, us[k + j]? = some u ∧ ARep num C x u) → (∀ (j : Nat) x, ys[j]? = some x → ∃ u, vs[k + j]? = some u ∧ ARep num C x u) →
    sameCells ks xs ys = some b → (Op.eqFields (d + 1) us vs fs).run P w = .ok b w
  | [], ks, k, xs, ys, b, _, _, hk, _, _, h => by
    simp at hk
    subst hk
    unfold sameCells at h
    split at h <;> simp_all
    rfl
  | f :: fs, ks, k, xs, ys, b, ho, hp, hk, hx, hy, h => by
    simp only [List.mapM_cons, Option.bind_eq_bind, Option.bind_eq_some_iff, Option.pure_def, Option.some.injEq] at hk
    obtain ⟨k0, hk0, ks', hks, rfl⟩ := hk
    have hoff : f.offset = k := by
      simp only [List.map_cons, List.length_cons, List.range'_succ, List.cons.injEq] at ho
      exact ho.1
    have ho' : fs.map (·.offset) = List.range' (k + 1) fs.length := by
      simp only [List.map_cons, List.length_cons, List.range'_succ, List.cons.injEq] at ho
      exact ho.2
    have hn := hp f (by simp)
    have go : ∀ x xs' y ys' q b', xs = x :: xs' → ys = y :: ys' → (∀ u v, ARep num C x u → ARep num C y v → (Op.equalIn (d + 1) f.type u v).run P w = .ok q w) → sameCells ks' xs' ys' = some b' → (Op.eqFields (d + 1) us vs (f :: fs)).run P w = .ok (q && b') w := by
      rintro x xs' y ys' q b' rfl rfl hq hb'
      obtain ⟨u, hu, hur⟩ := hx 0 x rfl
      obtain ⟨v, hv, hvr⟩ := hy 0 y rfl
      simp only [Nat.add_zero] at hu hv
      have e := same_fields d w fs ks' (k + 1) xs' ys' b' ho' (fun g hg => hp g (by simp [hg])) hks
        (fun j z hz => by have := hx (j + 1) z (by simpa using hz); rwa [show k + (j + 1) = k + 1 + j by omega] at this)
        (fun j z hz => by have := hy (j + 1) z (by simpa using hz); rwa [show k + (j + 1) = k + 1 + j by omega] at this) hb'
      simp only [Op.eqFields]
      rw [if_pos hn]
      simp only [hoff, Sem.run_bind, run_part_plain hk0 hu, run_part_plain hk0 hv, Result.andThen_ok, hq u v hur hvr]
      cases q
      · simp
      · simp [e]
    unfold sameCells at h
    split at h
    · simp_all
    · rename_i ks2 k1 i1 xs2 k2 j1 ys2 heq
      cases heq
      split at h
      · rename_i hkk
        subst hkk
        cases hs : sameCells ks' xs2 ys2 with
        | none => simp [hs] at h
        | some b' =>
          simp [hs] at h
          subst h
          refine go _ _ _ _ _ b' rfl rfl (fun u v hur hvr => ?_) hs
          have := rep_val hur; subst this
          have := rep_val hvr; subst this
          unfold kindOf at hk0
          split at hk0 <;> first | (cases hk0; done) | skip
          rename_i kk hk
          exact run_equalIn_int w d f.type k1 kk i1 j1 hk
      · cases h
    · rename_i ks2 i1 xs2 j1 ys2 heq
      cases heq
      cases hs : sameCells ks' xs2 ys2 with
      | none => simp [hs] at h
      | some b' =>
        simp [hs] at h
        subst h
        refine go _ _ _ _ _ b' rfl rfl (fun u v hur hvr => ?_) hs
        have := rep_val hur; subst this
        have := rep_val hvr; subst this
        unfold kindOf at hk0
        split at hk0 <;> first | (cases hk0; done) | skip
        rename_i hk
        exact Go.run_equalIn_bool w d f.type i1 j1 hk
    · rename_i ks2 i1 xs2 j1 ys2 heq
      cases heq
      cases hs : sameCells ks' xs2 ys2 with
      | none => simp [hs] at h
      | some b' =>
        simp [hs] at h
        subst h
        refine go _ _ _ _ _ b' rfl rfl (fun u v hur hvr => ?_) hs
        have := rep_val hur; subst this
        have := rep_val hvr; subst this
        unfold kindOf at hk0
        split at hk0 <;> first | (cases hk0; done) | skip
        rename_i hk
        rw [run_equalIn_string w d f.type i1 j1 hk, ← beq_toListBytes]
    · cases h

theorem y_eqCells (hs : SRep num C s a) {t yt : TypeId} {ks : List Nat} {x y : Operand} {x' y' : Src} {neg : Bool} (hx : trSrc num x = some x') (hy : trSrc num y = some y') (hf : flatStruct P t = some ks) {xs ys : List AV} (h1 : s.env.ev x' = .agg xs) (h2 : s.env.ev y' = .agg ys) {b : Bool} (hb : sameCells ks xs ys = some b) :
    Yields num P (.binOp (if neg then .neq else .eql) t x y yt) ty pos after a C s (.imm (.val (.bool (if neg then !b else b)))) s := by
  obtain ⟨fs, ht, hst, hg, hn, ho, hk⟩ := flat_some hf
  have hax := src_rep hs hx
  have hay := src_rep hs hy
  rw [h1] at hax
  rw [h2] at hay
  generalize hu : a.eval x = u at hax
  generalize hv : a.eval y = v at hay
  cases hax with
  | agg _ us hul hu1 hur =>
    cases hay with
    | agg _ vs hvl hv1 hvr =>
      have hfo : P.fieldsOf t = fs := by simp [Program.fieldsOf, ht]
      have get : ∀ (l : List AV) (arr : Array Value), l.length = arr.size → (∀ (j : Nat) (x : AV) (u : Value), l[j]? = some x → arr[j]? = some u → ARep num C x u) → ∀ (j : Nat) x, l[j]? = some x → ∃ u, arr[0 + j]? = some u ∧ ARep num C x u := by
        intro l arr hl hr j x hx
        have hj : j < arr.size := by rw [← hl]; exact (List.getElem?_eq_some_iff.1 hx).1
        exact ⟨arr[j], by simp [hj], hr j x _ hx (by simp [hj])⟩
      have hrun : (Op.equalIn 10000 t (.agg us) (.agg vs)).run P C.w = .ok b C.w := by
        rw [show (10000 : Nat) = 9999 + 1 from rfl, run_equalIn_struct C.w 9999 t us vs (by rw [hfo]; exact ht) hst, hfo]
        refine same_fields 9998 C.w fs.toList ks 0 xs ys b ?_ hn hk (get xs us hul hur) (get ys vs hvl hvr) hb
        rw [ho, List.range_eq_range', Array.length_toList]
      refine yields_pure (v := .bool (if neg then !b else b)) hs (fun _ _ => ?_) (.imm _ _ (.val _ rfl))
      cases neg
      · simp only [execOp, hu, hv, Sem.run_bind, Bool.false_eq_true, if_false, run_eqGuard_agg C.w _ t x y us vs hg, Result.andThen_ok, run_eql_struct, hrun]
        rfl
      · simp only [execOp, hu, hv, Sem.run_bind, if_true, run_eqGuard_agg C.w _ t x y us vs hg, Result.andThen_ok, run_neq_struct, hrun]
        rfl

end
end Go.EX
