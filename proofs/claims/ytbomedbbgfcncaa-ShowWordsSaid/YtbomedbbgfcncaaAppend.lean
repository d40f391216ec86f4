/-
  EX: append.
-/
import Derived.Test.YtbomedbbgfcncaaOps4
set_option linter.unusedVariables false
set_option linter.unusedSimpArgs false
namespace Go.EX

section
variable {num : FuncId → Nat} {P : Program}
variable {ty : TypeId} {pos : String} {after : Array Edge} {a : Act} {C : Cx} {s : St}

/-- What is put behind: so many elements, these cells. -/
structure Given (num : FuncId → Nat) (P : Program) (C : Cx) (sz : Nat) (v : Value) (n : Nat) (news : List IV) (us : Array Value) : Prop where
  len : ∀ w, (Builtin.lenOf v).run P w = .ok n w
  cells : ∀ w, w.heap = C.w.heap → (Builtin.firstCells sz n v).run P w = .ok us w
  size : us.size = n * sz
  count : news.length = n * sz
  rep : ∀ (j : Nat) x, news[j]? = some x → ∃ u, us[j]? = some u ∧ IRep C.I C.w x u

theorem heap_cell {w w' : World} (h : w'.heap = w.heap) (ad : Addr) : w'.cell? ad = w.cell? ad := by simp [World.cell?, h]

/-- A row's cells, read wherever the heap is the same. -/
theorem read_row {b o n : Nat} {r : List IV} (h : ∀ (j : Nat) x, r[j]? = some x → ∃ u : Value, C.w.cell? ⟨b, o + j, none⟩ = some u ∧ IRep C.I C.w x u) (hl : r.length = n) :
    ∃ us : Array Value, (∀ w, w.heap = C.w.heap → (loadCells ⟨b, o, none⟩ n).run P w = .ok us w) ∧ us.size = n ∧ ∀ (j : Nat) x, r[j]? = some x → ∃ u, us[j]? = some u ∧ IRep C.I C.w x u := by
  let f : Nat → Value := fun j => (C.w.cell? ⟨b, o + j, none⟩).getD undef
  have hf : ∀ j, j < n → C.w.cell? ((⟨b, o, none⟩ : Addr).add j) = some (f j) := by
    intro j hj
    obtain ⟨u, hu, _⟩ := h j r[j] (List.getElem?_eq_getElem (by omega))
    rw [addr_add, hu]
    simp [f, hu]
  refine ⟨((List.range n).map f).toArray, fun w hw => run_loadCells w _ n f (fun j hj => by rw [heap_cell hw]; exact hf j hj), by simp, fun j x hx => ?_⟩
  obtain ⟨u, hu, hr⟩ := h j x hx
  have hj : j < n := by rw [← hl]; exact (List.getElem?_eq_some_iff.1 hx).1
  exact ⟨u, by simp [f, hu, hj], hr⟩

theorem given_of {m : Mem} (hm : MRep num C m) {sz : Nat} {x : AV} {v : Value} (hx : ARep num C x v) {n : Nat} {news : List IV} (h : elems m sz x = some (n, news)) :
    ∃ us, Given num P C sz v n news us := by
  unfold elems at h
  split at h
  · cases h
    have := rep_val hx
    subst this
    exact ⟨#[], ⟨fun w => rfl, fun w _ => rfl, by simp, by simp, fun j x hx => by simp at hx⟩⟩
  · rename_i b
    split at h
    · rename_i h1
      cases h
      subst h1
      have := rep_val hx
      subst this
      have hex : (b.extract 0 b.size).data = b.data := by rw [ByteArray.data_extract]; exact Array.extract_size
      refine ⟨b.data.map fun c => .int .u8 c.toNat, ⟨fun w => rfl, fun w _ => by simp only [Builtin.firstCells, hex, Sem.run_pure], by rw [Array.size_map, Nat.mul_one]; rfl, by rw [List.length_map, Nat.mul_one]; exact Array.length_toList, fun j x hx => ?_⟩⟩
      rw [List.getElem?_map] at hx
      cases hq : b.data.toList[j]? with
      | none => simp [hq] at hx
      | some c =>
        simp [hq] at hx
        subst hx
        have hq' : b.data[j]? = some c := by rw [← Array.getElem?_toList]; exact hq
        exact ⟨_, by simp [hq'], .val _ rfl⟩
    · cases h
  · rename_i row off len cap
    cases hc : cut row off (len * sz) with
    | none => simp [hc] at h
    | some r =>
      simp [hc] at h
      obtain ⟨rfl, rfl⟩ := h
      cases hx with | imm _ _ hx => cases hx with
        | slice _ _ _ _ b o c ad u hI hcl hu hl hk ha =>
          have hrl := cut_length hc
          rcases ha with rfl | rfl
          · have hh : ∀ (j : Nat) x, r[j]? = some x → ∃ u' : Value, C.w.cell? ⟨b, o + off + j, none⟩ = some u' ∧ IRep C.I C.w x u' := by
              intro j x hx
              have hj : j < len * sz := by rw [← hrl]; exact (List.getElem?_eq_some_iff.1 hx).1
              have h2 := cut_get hc j hj
              rw [hx] at h2
              exact ⟨u (off + j), by rw [Nat.add_assoc]; exact hcl _ x h2, hu _ x h2⟩
            obtain ⟨us, h1, h2, h3⟩ := read_row (P := P) hh hrl
            exact ⟨us, ⟨fun w => rfl, fun w hw => h1 w hw, h2, hrl, h3⟩⟩
          · have hl0 : len = 0 := by omega
            subst hl0
            have hr0 : r = [] := List.eq_nil_of_length_eq_zero (by omega)
            subst hr0
            exact ⟨#[], ⟨fun w => rfl, fun w _ => by simp [Builtin.firstCells, loadCells, loadCellsFrom], by simp, by simp, fun j x hx => by simp at hx⟩⟩
        | vac _ _ ad =>
          have hrl := cut_length hc
          have hr0 : r = [] := List.eq_nil_of_length_eq_zero (by omega)
          subst hr0
          exact ⟨#[], ⟨fun w => rfl, fun w _ => by simp [Builtin.firstCells, loadCells, loadCellsFrom], by simp, by simp, fun j x hx => by simp at hx⟩⟩
  · rename_i id off sz' len cap
    have key : ∀ r : List IV, r.length = len * sz → (∀ (j : Nat) x, r[j]? = some x → ∃ u : Value, C.w.cell? ⟨C.σ id, off + j, none⟩ = some u ∧ IRep C.I C.w x u) → ∃ us, Given num P C sz v len r us := by
      intro r hrl hh
      cases hx with
      | osl _ _ _ _ _ c ad arr e hid hl hk ha hw hs =>
        rcases ha with rfl | rfl
        · obtain ⟨us, h1, h2, h3⟩ := read_row (P := P) hh hrl
          exact ⟨us, ⟨fun w => rfl, fun w hw => h1 w hw, h2, hrl, h3⟩⟩
        · have hl0 : len = 0 := by omega
          subst hl0
          have hr0 : r = [] := List.eq_nil_of_length_eq_zero (by omega)
          subst hr0
          exact ⟨#[], ⟨fun w => rfl, fun w _ => by simp [Builtin.firstCells, loadCells, loadCellsFrom], by simp, by simp, fun j x hx => by simp at hx⟩⟩
    have hcutmem : ∀ (l : List AV) (r : List IV), CellsAt num C (C.σ id) 0 l → cut l off (len * sz) = some (r.map .imm) → n = len → news = r → ∃ us, Given num P C sz v n news us := by
      rintro l r hl hc rfl rfl
      have hrl := cut_length hc
      rw [List.length_map] at hrl
      refine key news hrl fun j x hx => ?_
      have hj : j < n * sz := by rw [← hrl]; exact (List.getElem?_eq_some_iff.1 hx).1
      have h2 := cut_get hc j hj
      rw [List.getElem?_map, hx] at h2
      obtain ⟨u, hu, _, hr⟩ := hl _ _ h2
      cases hr with | imm _ _ hr => exact ⟨u, by rw [Nat.zero_add] at hu; exact hu, hr⟩
    split at h
    · rename_i cs mv ho
      cases hc : cut cs off (len * sz) with
      | none => simp [hc] at h
      | some r =>
        simp [hc] at h
        obtain ⟨rfl, rfl⟩ := h
        exact hcutmem _ r (cellsAt_flat (hm.obj id _ ho)) (by rw [cut_map, hc]; rfl) rfl rfl
    · rename_i cs ho
      cases hc : cut cs off (len * sz) with
      | none => simp [hc] at h
      | some r =>
        simp only [hc] at h
        cases hi : imms r with
        | none => simp [hi] at h
        | some r' =>
          simp [hi] at h
          obtain ⟨rfl, rfl⟩ := h
          exact hcutmem _ r' (cellsAt_rich (hm.obj id _ ho)) (by rw [hc, imms_get r r' hi]) rfl rfl
    · cases h
  · cases h

/-! ### what append does in a world -/

theorem run_append_grows {t u e : TypeId} {d : TypeDesc} {i : TypeInfo} {z : Value} (ht : P.underlying t = some (.slice e)) (hu : P.underlying u = some d) (hd : notIntD d = true) (hi : P.info? e = some i) (hz : i.zero = some z)
    (w : World) (b : Option Addr) (l c n : Nat) (v : Value) (olds us : Array Value) (hlen : (Builtin.lenOf v).run P w = .ok n w) (hnew : (Builtin.firstCells i.size n v).run P w.drew = .ok us w.drew)
    (hold : (Builtin.firstCells i.size l (.slice b l c)).run P w.drew = .ok olds w.drew) (hgt : c < l + n) (hby : (l + n) * i.bytes ≤ 140737488355328) (h1 : 0 < i.bytes) :
    (Builtin.append_ #[t, u] ty #[.slice b l c, v]).run P w = .ok (.slice (some ⟨w.heap.size, 0, none⟩) (l + n) (grownCap w (l + n) c e)) (w.drew.alloc (.cells (olds ++ us ++ Builtin.zeroCells z.cells (grownCap w (l + n) c e - (l + n))) e)) := by
  have hn : ¬ (l + n ≤ c) := by omega
  have hle : l + n ≤ 140737488355328 := by
    have := Nat.le_mul_of_pos_right (l + n) h1
    omega
  have h63 : ¬ ((l : Int) + (n : Int) > IntKind.i64.max) := by simp [IntKind.max, IntKind.signed, IntKind.bits]; omega
  have h48 : ¬ (Builtin.nextslicecap (l + n) c * i.bytes > 2 ^ 48) := by have := growslice_fits hgt hby; omega
  have hzr : (zeroValue e).run P w.drew = .ok z w.drew := by simp [zeroValue, typeInfo, hi, hz]
  have hti : ∀ w', (typeInfo e).run P w' = .ok i w' := fun w' => by simp [typeInfo, hi]
  cases d <;> first
    | (cases hd; done)
    | (simp only [Builtin.append_, List.getElem?_toArray, List.getElem?_cons_zero, List.getElem?_cons_succ, Sem.run_bind, run_underlying ht, Result.andThen_ok, sizeOf, hti, Sem.run_pure, run_underlying hu, Bool.false_eq_true, if_false, hlen, hn]
       simp [h63, h48, hti, Question.forced, hold, hnew, hzr, newRow, grownCap]
       intro h9
       exfalso
       omega)

theorem run_append_rooms {t u e : TypeId} {d : TypeDesc} {i : TypeInfo} (ht : P.underlying t = some (.slice e)) (hu : P.underlying u = some d) (hd : notIntD d = true) (hi : P.info? e = some i)
    (w : World) (b : Option Addr) (l c n : Nat) (v : Value) (us : Array Value) (hlen : (Builtin.lenOf v).run P w = .ok n w) (hnew : (Builtin.firstCells i.size n v).run P w = .ok us w) (hle : l + n ≤ c) {w' : World}
    (hst : ∀ ad, b = some ad → (storeCells (ad.add (l * i.size)) us.toList).run P w = .ok () w') (hno : b = none → w' = w) :
    (Builtin.append_ #[t, u] ty #[.slice b l c, v]).run P w = .ok (.slice b (l + n) c) w' := by
  have hti : ∀ w', (typeInfo e).run P w' = .ok i w' := fun w' => by simp [typeInfo, hi]
  cases d <;> first
    | (cases hd; done)
    | (simp only [Builtin.append_, List.getElem?_toArray, List.getElem?_cons_zero, List.getElem?_cons_succ, Sem.run_bind, run_underlying ht, Result.andThen_ok, sizeOf, hti, Sem.run_pure, run_underlying hu, Bool.false_eq_true, if_false, hlen, hle, if_true]
       cases b with
       | none => simp [hnew, hno rfl]
       | some ad => simp [hnew, hst ad rfl])

theorem zeroCells_size (z : Array Value) (n : Nat) : (Builtin.zeroCells z n).size = n * z.size := by simp [Builtin.zeroCells]

end
end Go.EX
