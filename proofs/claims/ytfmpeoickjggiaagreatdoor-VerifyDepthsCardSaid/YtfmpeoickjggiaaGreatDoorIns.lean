import Derived.Test.YtfmpeoickjggiaaGreatDoorK3
import Derived.Shelf.Spec.SlicesInsertGrow
set_option linter.unusedVariables false
set_option linter.unusedSimpArgs false
namespace Go.EX
open Go.Proofs
def exInsert : List AV → Mem → Option (AV × Mem)
  | [.osl id 0 1 n _, .imm (.val (.int .i64 k)), .osl jd 0 1 1 (some 1)], m =>
    match m[id]?, m[jd]? with
    | some (.flat cs _), some (.flat [x] _) =>
      if id ≠ jd ∧ 0 ≤ k ∧ k ≤ n ∧ n ≤ cs.length ∧ (n + 1) * 8 ≤ 140737488355328 then
        some (.osl id 0 1 (n + 1) none, (m.map (AObj.ren (hide id))).set id (.flat (cs.take k.toNat ++ x :: (cs.take n).drop k.toNat) true))
      else none
    | _, _ => none
  | _, _ => none
section
variable {num : FuncId → Nat} {P : Program} {ρ : Go.Shelf.Ren}
theorem setCells_row (b : Nat) (e : TypeId) : ∀ (vs : List Value) (o : Nat) (w : World) (arr : Array Value), w.heap[b]? = some (.cells arr e (0, 0)) → o + vs.length ≤ arr.size →
    ∃ arr', (w.setCells b o vs).heap[b]? = some (.cells arr' e (0, 0)) ∧ arr'.size = arr.size ∧ (∀ j, arr'[j]? = if o ≤ j ∧ j < o + vs.length then vs[j - o]? else arr[j]?) ∧
      (∀ k, k ≠ b → (w.setCells b o vs).heap[k]? = w.heap[k]?) ∧ (w.setCells b o vs).heap.size = w.heap.size ∧ (w.setCells b o vs).os = w.os ∧ (w.setCells b o vs).tape = w.tape ∧ (w.setCells b o vs).output = w.output
  | [], o, w, arr, h, _ => ⟨arr, h, rfl, fun j => by rw [if_neg (by simp)], fun _ _ => rfl, rfl, rfl, rfl, rfl⟩
  | v :: r, o, w, arr, h, hl => by
    have h1 : (w.setCell ⟨b, o, none⟩ v).heap[b]? = some (.cells (arr.setIfInBounds o v) e (0, 0)) := by
      simp [World.setCell, Array.getElem?_modify, h]
    simp only [List.length_cons] at hl
    obtain ⟨arr', h2, h3, h4, h5, h6, h7, h8, h9⟩ := setCells_row b e r (o + 1) (w.setCell ⟨b, o, none⟩ v) _ h1 (by simp; omega)
    refine ⟨arr', h2, by rw [h3]; simp, fun j => ?_, fun k hk => ?_, by rw [World.setCells, h6]; simp, by rw [World.setCells, h7]; rfl, by rw [World.setCells, h8]; rfl, by rw [World.setCells, h9]; rfl⟩
    · rw [h4]
      simp only [List.length_cons, Array.getElem?_setIfInBounds]
      by_cases hj : j = o
      · subst hj
        rw [if_neg (by omega), if_pos rfl, if_pos (by omega), if_pos (by omega)]
        simp
      · by_cases hj2 : o + 1 ≤ j ∧ j < o + 1 + r.length
        · rw [if_pos hj2, if_pos (by omega)]
          have : j - o = (j - (o + 1)) + 1 := by omega
          rw [this]; simp
        · rw [if_neg hj2, if_neg (by omega), if_neg (by omega)]
    · rw [World.setCells, h5 k hk]
      simp [World.setCell, Array.getElem?_modify, Ne.symm hk]
variable {C : Cx}
theorem insert_calls (L : Lays2.n21 P ρ) {args : List AV} {m m' : Mem} {r : AV} {vals : Array Value} (h : exInsert args m = some (r, m')) (hm : MRep num C m) (hl : args.length = vals.size)
    (hr : ∀ (j : Nat) (x : AV) (u : Value), args[j]? = some x → vals[j]? = some u → ARep num C x u) :
    Calls P (ρ.f 21) vals C.w (fun e w' => ∃ v D, e = .returned v ∧ D.w = w' ∧ Step num m.length C m D m' ∧ ARep num D r v) := by
  unfold exInsert at h
  split at h
  · rename_i id n cap k jd
    split at h
    · rename_i cs mv x mv2 ho hj
      split at h
      · rename_i hc
        obtain ⟨hne, hk0, hkn, hncs, hbig⟩ := hc
        simp only [Option.some.injEq, Prod.mk.injEq] at h
        obtain ⟨rfl, rfl⟩ := h
        have hsz : vals.size = 3 := by simpa using hl.symm
        obtain ⟨k, rfl⟩ : ∃ i : Nat, k = i := ⟨k.toNat, by omega⟩
        have e0 : vals[0]? = some vals[0] := by simp [hsz]
        have e1 : vals[1]? = some vals[1] := by simp [hsz]
        have e2 : vals[2]? = some vals[2] := by simp [hsz]
        have r0 := hr 0 _ _ rfl e0
        have r1 := hr 1 _ _ rfl e1
        have r2 := hr 2 _ _ rfl e2
        have hvals : vals = #[vals[0], vals[1], vals[2]] := by
          apply Array.ext
          · simp [hsz]
          · intro i h1 h2
            have : i = 0 ∨ i = 1 ∨ i = 2 := by simp at h2; omega
            rcases this with rfl | rfl | rfl <;> rfl
        have hv1 := rep_val r1
        generalize hg0 : vals[0] = v0 at *
        generalize hg1 : vals[1] = v1 at *
        generalize hg2 : vals[2] = v2 at *
        subst hv1
        cases r0 with
        | osl _ _ _ _ _ c ad arr e hid hlc hk' ha hw hss =>
          cases r2 with
          | osl _ _ _ _ _ c2 ad2 arr2 e2' hid2 hlc2 hk2 ha2 hw2 hss2 =>
            have hc2 := hk2 1 rfl
            subst hc2
            have had2 : ad2 = 0 := by omega
            subst had2
            obtain ⟨arrA, eA, hA, hcs⟩ := hm.obj id _ ho
            obtain ⟨arrB, eB, hB, hxs⟩ := hm.obj jd _ hj
            rw [hw] at hA
            rw [hw2] at hB
            obtain ⟨rfl, rfl⟩ : arr = arrA ∧ e = eA := by simpa using hA
            obtain ⟨rfl, rfl⟩ : arr2 = arrB ∧ e2' = eB := by simpa using hB
            obtain ⟨u, hu, hxu⟩ := hxs 0 x rfl
            have hbne : C.σ jd ≠ C.σ id := fun he => hne (hm.inj1 num id jd _ _ ho hj rfl rfl rfl he.symm)
            have hcl := flat_le hcs
            have hold : ∃ us : List Value, us.length = n ∧ ∀ (j : Nat), j < n → us[j]? = arr[j]? := by
              refine ⟨(arr.toList.take n), by simp; omega, fun j hj => ?_⟩
              rw [List.getElem?_take, if_pos hj, Array.getElem?_toList]
            obtain ⟨us, husl, hus⟩ := hold
            have hcell : ∀ j v, us[j]? = some v → C.w.cell? ⟨C.σ id, 0 + j, none⟩ = some v := fun j v hv => by
              have hjn : j < n := by rw [← husl]; exact (List.getElem?_eq_some_iff.1 hv).1
              rw [cell_of_row C.w _ _ arr e _ hw, Nat.zero_add, ← hus j hjn]; exact hv
            have hvs : ∀ j v, [u][j]? = some v → C.w.cell? ⟨C.σ jd, 0 + j, none⟩ = some v := fun j v hv => by
              cases j with
              | zero => simp at hv; subst hv; rw [cell_of_row C.w _ _ arr2 e2' _ hw2]; exact hu
              | succ j => simp at hv
            have husrep : ∀ (j : Nat) y, (cs.take n)[j]? = some y → ∃ u', us[j]? = some u' ∧ IRep C.I C.w y u' := fun j y hy => by
              rw [List.getElem?_take] at hy
              split at hy
              · rename_i hjn
                obtain ⟨u', hu', hr'⟩ := hcs j y hy
                exact ⟨u', by rw [hus j hjn]; exact hu', hr'⟩
              · cases hy
            have h1c : ∀ v ∈ us, v.oneCell' = true := fun v hv => by
              obtain ⟨j, hj⟩ := List.getElem?_of_mem hv
              have hjn : j < n := by rw [← husl]; exact (List.getElem?_eq_some_iff.1 hj).1
              obtain ⟨u', hu', hr'⟩ := husrep j (cs[j]'(by omega)) (by rw [List.getElem?_take, if_pos hjn]; exact List.getElem?_eq_getElem _)
              rw [hj] at hu'; cases hu'; exact hr'.one
            have h1v : ∀ v ∈ [u], v.oneCell' = true := fun v hv => by simp at hv; subst hv; exact hxu.one
            have hrep : ∀ {w' : World} {arr' : Array Value} {σ' : Nat → Nat} {e' : TypeId}, w'.heap[σ' id]? = some (.cells arr' e' (0, 0)) → (∀ b, C.I b → w'.heap[b]? = C.w.heap[b]?) →
                (∀ j, j < n + 1 → arr'[j]? = (us.take k ++ u :: us.drop k)[j]?) → ORep num { C with σ := σ', w := w' } id (.flat (cs.take k ++ x :: (cs.take n).drop k) true) := by
              intro w' arr' σ' e' hh hI hj
              refine ⟨arr', e', hh, fun j y hy => ?_⟩
              have hlen : (cs.take k ++ x :: (cs.take n).drop k).length = n + 1 := by simp; omega
              have hjn : j < n + 1 := by rw [← hlen]; exact (List.getElem?_eq_some_iff.1 hy).1
              have hfin : ∃ u', (us.take k ++ u :: us.drop k)[j]? = some u' ∧ IRep C.I C.w y u' := by
                have ht : (cs.take k).length = k := by simp; omega
                have ht2 : (us.take k).length = k := by simp; omega
                rw [List.getElem?_append] at hy ⊢
                rw [ht] at hy
                rw [ht2]
                split at hy
                · rename_i hjk
                  rw [if_pos hjk]
                  rw [List.getElem?_take, if_pos hjk] at hy ⊢
                  exact husrep j y (by rw [List.getElem?_take, if_pos (by omega)]; exact hy)
                · rename_i hjk
                  rw [if_neg hjk]
                  rcases Nat.eq_or_lt_of_le (Nat.ge_of_not_lt hjk) with h0 | h0
                  · have : j - k = 0 := by omega
                    rw [this] at hy ⊢
                    simp at hy; subst hy
                    exact ⟨u, rfl, hxu⟩
                  · have : j - k = (j - k - 1) + 1 := by omega
                    rw [this] at hy ⊢
                    simp only [List.getElem?_cons_succ, List.getElem?_drop] at hy ⊢
                    exact husrep _ y hy
              obtain ⟨u', hu', hr'⟩ := hfin
              exact ⟨u', by rw [hj j hjn]; exact hu', hr'.mono (fun _ h => h) (fun b hb => hI b hb)⟩
            rw [hvals]
            have hidn : C.σ id < C.w.heap.size := (Array.getElem?_eq_some_iff.1 hw).1
            have hnoI : ∀ b, C.I b → b ≠ C.σ id := fun b hb he => hm.imm b ⟨id, _, ho, rfl, he.symm⟩ hb
            have place : ∀ (w' : World), (∀ b, b ≠ C.σ id → w'.heap[b]? = C.w.heap[b]?) → w'.heap.size = C.w.heap.size → w'.os = C.w.os → w'.tape = C.w.tape → w'.output = C.w.output → ad = 0 → n + 1 ≤ c →
                (∃ arr', w'.heap[C.σ id]? = some (.cells arr' e (0, 0)) ∧ arr'.size = arr.size ∧ ∀ j, j < n + 1 → arr'[j]? = (us.take k ++ u :: us.drop k)[j]?) →
                ∃ v D, Ending.returned (.slice (some ⟨C.σ id, ad, none⟩) (n + 1) c) = .returned v ∧ D.w = w' ∧ Step num m.length C m D ((m.map (AObj.ren (hide id))).set id (.flat (cs.take k ++ x :: (cs.take n).drop k) true)) ∧ ARep num D (.osl id 0 1 (n + 1) none) v := by
              intro w' hot hsz' hos htp hout had hnc ⟨arr', hh, hs', hj'⟩
              refine ⟨_, { C with σ := C.σ, w := w' }, rfl, rfl, move_step hm ho rfl (fun _ _ => rfl) (.inl rfl) hos htp hout (by omega) (fun b _ hb => hot b hb) (fun a1 e1 h1 => ?_) (hrep hh (fun b hb => hot b (hnoI b hb)) hj') (Nat.le_refl _), ?_⟩
              · rw [hw] at h1; cases h1; exact ⟨arr', hh, hs'⟩
              · exact .osl id 0 1 (n + 1) none c ad arr' e hid ⟨hnc, hlc.2⟩ (fun k hk => by cases hk) (.inl had) hh (by rw [hs']; exact hss)
            have moved : ∀ (w' : World) (arr' : Array Value) (e' : TypeId) (c' : Nat), (∀ b, b < C.w.heap.size → w'.heap[b]? = C.w.heap[b]?) → w'.heap.size = C.w.heap.size + 1 → w'.os = C.w.os → w'.tape = C.w.tape → w'.output = C.w.output →
                w'.heap[C.w.heap.size]? = some (.cells arr' e' (0, 0)) → arr'.size = c' → n + 1 ≤ c' → c' ≤ 9223372036854775807 → (∀ j, j < n + 1 → arr'[j]? = (us.take k ++ u :: us.drop k)[j]?) →
                ∃ v D, Ending.returned (.slice (some ⟨C.w.heap.size, 0, none⟩) (n + 1) c') = .returned v ∧ D.w = w' ∧ Step num m.length C m D ((m.map (AObj.ren (hide id))).set id (.flat (cs.take k ++ x :: (cs.take n).drop k) true)) ∧ ARep num D (.osl id 0 1 (n + 1) none) v := by
              intro w' arr' e' c' hot hsz' hos htp hout hh hs' hnc hc63 hj'
              generalize hσ : (fun j => if j = id then C.w.heap.size else C.σ j) = σ'
              have hσi : σ' id = C.w.heap.size := by rw [← hσ]; simp
              have hσo : ∀ j, j ≠ id → σ' j = C.σ j := fun j hj => by rw [← hσ]; simp [hj]
              refine ⟨_, { C with σ := σ', w := w' }, rfl, rfl, move_step hm ho rfl hσo (.inr (by rw [hσi]; exact Nat.le_refl _)) hos htp hout (by omega) (fun b hb _ => hot b hb) (fun a1 e1 h1 => ⟨a1, by rw [hot _ hidn]; exact h1, rfl⟩)
                (hrep (arr' := arr') (e' := e') (by rw [hσi]; exact hh) (fun b hb => hot b (hm.bd b hb)) hj') (Nat.le_refl _), ?_⟩
              have := ARep.osl (num := num) (C := { C with σ := σ', w := w' }) id 0 1 (n + 1) none c' 0 arr' e' hid ⟨hnc, hc63⟩ (fun k hk => by cases hk) (.inl rfl) (by show w'.heap[σ' id]? = _; rw [hσi]; exact hh) (.inr (by omega))
              simp only [hσi] at this
              exact this
            have hkn' : k ≤ n := by omega
            have hfz : ∀ b o (arr : Array Value) (e : TypeId), C.w.heap[b]? = some (.cells arr e (0, 0)) → C.w.frozen? ⟨b, o, none⟩ = false := fun b o arr e h => by simp [World.frozen?, h]
            rcases Nat.eq_or_lt_of_le hkn' with hkn2 | hkn2
            · subst hkn2
              have hall : us.take k ++ u :: us.drop k = us ++ [u] := by rw [List.take_of_length_le (by omega), List.drop_eq_nil_of_le (by omega)]
              rw [hall] at place moved
              by_cases hroom : k + 1 ≤ c
              · have had : ad = 0 := by omega
                subst had
                have hfit : k + 1 ≤ arr.size := by omega
                refine (Any2.slices_Insert_int_end_room L (C.σ id) 0 k c (C.σ jd) 0 1 1 [u] C.w (by omega) hroom hlc.2 rfl (fun j hj => ?_) (fun j _ => hfz _ _ _ _ hw) hvs h1v).mono ?_
                · rw [cell_of_row C.w _ _ arr e _ hw]
                  rw [Array.getElem?_eq_getElem (by omega)]; rfl
                · rintro e' w' ⟨rfl, rfl⟩
                  obtain ⟨arr', h2, h3, h4, h5, h6, h7, h8, h9⟩ := setCells_row (C.σ id) e [u] (0 + k) C.w arr hw (by simp; omega)
                  refine place _ h5 h6 h7 h8 h9 rfl hroom ⟨arr', h2, h3, fun j hj => ?_⟩
                  rw [h4]
                  simp only [List.length_singleton, Nat.zero_add]
                  rw [List.getElem?_append, husl]
                  by_cases hjk : j < k
                  · rw [if_neg (by omega), if_pos hjk]; exact (hus j hjk).symm
                  · rw [if_pos (by omega), if_neg hjk]
              · refine (Any2.slices_Insert_int_end_grow L (some ⟨C.σ id, ad, none⟩) k c (C.σ jd) 0 1 1 us [u] C.w (by omega) hlc.1 (by omega) (by omega) husl rfl (fun h => by cases h) (fun a ha' j v hv => ?_) hvs h1v).mono ?_
                · cases ha'
                  rw [Addr.add_lit]
                  have hjn : j < k := by rw [← husl]; exact (List.getElem?_eq_some_iff.1 hv).1
                  have had : ad = 0 := by omega
                  subst had
                  exact hcell j v hv
                · rintro e' w' ⟨rfl, rfl⟩
                  have hge := grownCap_ge C.w (k + 1) c (ρ.t 3)
                  have hle := grown_fits (w := C.w) (need := k + 1) (old := c) (e := ρ.t 3) hbig (by omega)
                  generalize grownCap C.w (k + 1) c (ρ.t 3) = G at hge hle ⊢
                  refine moved _ ((us ++ [u]).toArray ++ Builtin.zeroCells (Value.int .i64 0).cells (G - (k + 1))) (ρ.t 3) G (fun b hb => ?_) ?_ rfl rfl rfl ?_ ?_ hge hle.2 (fun j hj => ?_)
                  · rw [alloc_get, if_neg (by have : C.w.drew.heap.size = C.w.heap.size := rfl; omega)]; rfl
                  · rw [World.size_alloc]; rfl
                  · rw [alloc_get]; exact if_pos rfl
                  · rw [Array.size_append, zeroCells_size]; simp [Value.cells, husl]; omega
                  · rw [Array.getElem?_append]
                    rw [if_pos (by simp [husl]; omega)]
                    simp
            · have hfin : ∀ {arr1 arr' : Array Value}, (∀ j, j < k → arr1[j]? = us[j]?) → (∀ j, arr'[j]? = if k + 1 ≤ j ∧ j < k + 1 + (us.drop k).length then (us.drop k)[j - (k + 1)]? else arr1[j]?) → True := fun _ _ => trivial
              have hget : ∀ j, (us.take k ++ u :: us.drop k)[j]? = if j < k then us[j]? else if j = k then some u else us[j - 1]? := by
                intro j
                have ht2 : (us.take k).length = k := by simp; omega
                rw [List.getElem?_append, ht2]
                by_cases hjk : j < k
                · rw [if_pos hjk, if_pos hjk, List.getElem?_take, if_pos hjk]
                · rw [if_neg hjk, if_neg hjk]
                  by_cases hj2 : j = k
                  · subst hj2; simp
                  · rw [if_neg hj2]
                    have : j - k = (j - k - 1) + 1 := by omega
                    rw [this, List.getElem?_cons_succ, List.getElem?_drop]
                    congr 1; omega
              by_cases hroom : n + 1 ≤ c
              · have had : ad = 0 := by omega
                subst had
                have hfit : n + 1 ≤ arr.size := by omega
                refine (Any2.slices_Insert_int_shift L (C.σ id) 0 n c k (C.σ jd) 0 1 1 us [u] C.w hkn2 (by omega) hroom hlc.2 hbne husl rfl hcell (fun j hj => ?_) (fun j _ => hfz _ _ _ _ hw) hvs h1c h1v e2' e arr2.size arr.size
                  (by simp [World.shape?, hw2]) (by simp [World.shape?, hw]) (by omega) (hfz _ _ _ _ hw2) (hfz _ _ _ _ hw2)).mono ?_
                · rw [cell_of_row C.w _ _ arr e _ hw, Array.getElem?_eq_getElem (by omega)]; rfl
                · rintro e' w' ⟨rfl, rfl⟩
                  obtain ⟨arr1, h2, h3, h4, h5, h6, h7, h8, h9⟩ := setCells_row (C.σ id) e (us.drop k) (0 + (k + 1)) C.w.drew arr hw (by simp; omega)
                  obtain ⟨arr', g2, g3, g4, g5, g6, g7, g8, g9⟩ := setCells_row (C.σ id) e [u] (0 + k) _ arr1 h2 (by simp; omega)
                  refine place _ (fun b hb => by rw [g5 b hb, h5 b hb]; rfl) (by rw [g6, h6]; rfl) (by rw [g7, h7]; rfl) (by rw [g8, h8]; rfl) (by rw [g9, h9]; rfl) rfl hroom ⟨arr', g2, by rw [g3, h3], fun j hj => ?_⟩
                  rw [g4, h4, hget]
                  simp only [List.length_singleton, Nat.zero_add, List.length_drop, husl, List.getElem?_drop]
                  by_cases hjk : j < k
                  · rw [if_neg (by omega), if_neg (by omega), if_pos hjk]; exact (hus j (by omega)).symm
                  · by_cases hj2 : j = k
                    · subst hj2; rw [if_pos (by omega), if_neg hjk, if_pos rfl]; simp
                    · rw [if_neg (by omega), if_pos (by omega), if_neg hjk, if_neg hj2]
                      congr 1; omega
              · have had : ad = 0 := by omega
                subst had
                refine (Any2.slices_Insert_int_grow L (C.σ id) 0 n c k (C.σ jd) 0 1 1 us [u] C.w hkn2 (by omega) hlc.1 (by omega) (by omega) husl rfl hcell hvs h1c h1v).mono ?_
                rintro e' w' ⟨rfl, rfl⟩
                have hge := grownCap_ge C.w (n + 1) c (ρ.t 3)
                have hle := grown_fits (w := C.w) (need := n + 1) (old := c) (e := ρ.t 3) hbig (by omega)
                generalize grownCap C.w (n + 1) c (ρ.t 3) = G at hge hle ⊢
                generalize hROW : (us.take k).toArray ++ Builtin.zeroCells (Value.int .i64 0).cells (n + 1 - k) ++ Builtin.zeroCells (Value.int .i64 0).cells (G - (n + 1)) = ROW
                have hRs : ROW.size = G := by rw [← hROW, Array.size_append, Array.size_append, zeroCells_size, zeroCells_size]; simp [Value.cells, husl]; omega
                have hRk : ∀ j, j < k → ROW[j]? = us[j]? := fun j hj => by
                  rw [← hROW, Array.append_assoc, Array.getElem?_append, if_pos (by simp [husl]; omega)]
                  simp [List.getElem?_take, hj]
                have ha0 : (C.w.alloc (.cells ROW (ρ.t 3))).heap[C.w.heap.size]? = some (.cells ROW (ρ.t 3) (0, 0)) := by rw [alloc_get]; exact if_pos rfl
                obtain ⟨arr1, h2, h3, h4, h5, h6, h7, h8, h9⟩ := setCells_row C.w.heap.size (ρ.t 3) [u] k (C.w.alloc (.cells ROW (ρ.t 3))).drew ROW ha0 (by simp; omega)
                obtain ⟨arr', g2, g3, g4, g5, g6, g7, g8, g9⟩ := setCells_row C.w.heap.size (ρ.t 3) (us.drop k) (k + 1) ((C.w.alloc (.cells ROW (ρ.t 3))).drew.setCells C.w.heap.size k [u]).drew arr1 h2 (by simp; omega)
                refine moved _ arr' (ρ.t 3) G (fun b hb => ?_) ?_ ?_ ?_ ?_ g2 (by rw [g3, h3, hRs]) hge hle.2 (fun j hj => ?_)
                · rw [g5 b (by omega)]
                  show ((C.w.alloc (.cells ROW (ρ.t 3))).drew.setCells C.w.heap.size k [u]).heap[b]? = _
                  rw [h5 b (by omega)]
                  show (C.w.alloc (.cells ROW (ρ.t 3))).heap[b]? = _
                  rw [alloc_get, if_neg (by omega)]
                · rw [g6]
                  show ((C.w.alloc (.cells ROW (ρ.t 3))).drew.setCells C.w.heap.size k [u]).heap.size = _
                  rw [h6]
                  show (C.w.alloc (.cells ROW (ρ.t 3))).heap.size = _
                  rw [World.size_alloc]
                · rw [g7]; show ((C.w.alloc (.cells ROW (ρ.t 3))).drew.setCells C.w.heap.size k [u]).os = _; rw [h7]; rfl
                · rw [g8]; show ((C.w.alloc (.cells ROW (ρ.t 3))).drew.setCells C.w.heap.size k [u]).tape = _; rw [h8]; rfl
                · rw [g9]; show ((C.w.alloc (.cells ROW (ρ.t 3))).drew.setCells C.w.heap.size k [u]).output = _; rw [h9]; rfl
                · rw [g4, h4, hget]
                  simp only [List.length_singleton, List.length_drop, husl, List.getElem?_drop]
                  by_cases hjk : j < k
                  · rw [if_neg (by omega), if_neg (by omega), if_pos hjk, hRk j hjk]
                  · by_cases hj2 : j = k
                    · subst hj2; rw [if_neg (by omega), if_pos (by omega), if_neg hjk, if_pos rfl]; simp
                    · rw [if_pos (by omega), if_neg hjk, if_neg hj2]
                      congr 1; omega
      · cases h
    · cases h
  · cases h
def extInsert (g : Nat) : Calls' := fun f args m => if f = g then exInsert args m else none
theorem extInsert_ok (L : Lays2.n21 P ρ) {g : Nat} (hnum : ∀ f, num f = g → f = ρ.f 21) (hcl : Callable P (ρ.f 21)) : CallOK num P (extInsert g) := by
  intro f args m r m' C vals hc hm hl hr
  unfold extInsert at hc
  split at hc
  · rename_i hf
    rw [hnum f hf]
    exact ⟨hcl, insert_calls L hc hm hl hr⟩
  · cases hc
end
end Go.EX

