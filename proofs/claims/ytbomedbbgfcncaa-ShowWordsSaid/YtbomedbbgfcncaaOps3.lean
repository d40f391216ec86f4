/-
  EX: structs and slices put together; slice expressions; make, copy.
-/
import Derived.Test.YtbomedbbgfcncaaOps2
import Derived.Laws.MakeOwn
set_option linter.unusedVariables false
set_option linter.unusedSimpArgs false
namespace Go.EX

section
variable {num : FuncId → Nat} {P : Program}
variable {ty : TypeId} {pos : String} {after : Array Edge} {a : Act} {C : Cx} {s : St}

theorem run_listMapM {α β : Type} (g : α → Sem β) (h : α → β) (w : World) : ∀ (l : List α), (∀ x ∈ l, (g x).run P w = .ok (h x) w) → (l.mapM g).run P w = .ok (l.map h) w
  | [], _ => rfl
  | x :: l, hx => by
    simp only [List.mapM_cons, Sem.run_bind, hx x (by simp), Result.andThen_ok, run_listMapM g h w l (fun y hy => hx y (by simp [hy])), Sem.run_pure, List.map_cons]

theorem run_arrayMapM {α β : Type} (g : α → Sem β) (h : α → β) (w : World) (l : Array α) (hx : ∀ x ∈ l, (g x).run P w = .ok (h x) w) : (l.mapM g).run P w = .ok (l.map h) w := by
  rw [Array.mapM_eq_mapM_toList]
  simp only [Sem.run_map, run_listMapM g h w l.toList (fun x hm => hx x (by simpa using hm)), Result.andThen_ok]
  congr 1
  apply Array.ext'
  simp

theorem foldl_set (off : Nat) : ∀ (l : List Value) (k : Nat) (cur : Array Value), ((l.zipIdx k).foldl (fun cs (p : Value × Nat) => cs.setIfInBounds (off + p.2) p.1) cur).toList = setAll cur.toList (off + k) l
  | [], k, cur => rfl
  | x :: l, k, cur => by
    simp only [List.zipIdx_cons, List.foldl_cons, setAll]
    rw [foldl_set off l (k + 1)]
    simp [Array.toList_setIfInBounds, Nat.add_assoc]

/-- Cells that stand for cs. -/
structure Stands (num : FuncId → Nat) (C : Cx) (cs : List AV) (vs : List Value) : Prop where
  len : cs.length = vs.length
  one : ∀ (j : Nat) u, vs[j]? = some u → u.oneCell' = true
  rep : ∀ (j : Nat) x u, cs[j]? = some x → vs[j]? = some u → ARep num C x u

theorem Stands.setAll {cs xs : List AV} {vs us : List Value} (h : Stands num C cs vs) (g : Stands num C xs us) (off : Nat) : Stands num C (setAll cs off xs) (setAll vs off us) := by
  refine ⟨by rw [setAll_length, setAll_length, h.len], fun j u hu => ?_, fun j x u hx hu => ?_⟩
  · rw [setAll_get] at hu
    split at hu
    · exact g.one _ u hu
    · exact h.one _ u hu
  · rw [setAll_get] at hu hx
    rw [h.len, g.len] at hx
    split at hu
    · rename_i hj
      rw [if_pos hj] at hx
      exact g.rep _ x u hx hu
    · rename_i hj
      rw [if_neg hj] at hx
      exact h.rep _ x u hx hu

theorem stands_cells {x : AV} {v : Value} (h : ARep num C x v) {cs : List AV} (hc : x.cells = some cs) : Stands num C cs v.cells.toList := by
  obtain ⟨h1, h2, h3⟩ := rep_cells h hc
  exact ⟨by simpa using h1, fun j u hu => h2 j u (by simpa using hu), fun j y u hy hu => h3 j y u hy (by simpa using hu)⟩

theorem stands_zero {zs : List Value} (h : zs.all oneCellV = true) : Stands num C (imZ zs) zs := by
  have h1 : ∀ (j : Nat) u, zs[j]? = some u → u.oneCell' = true := by
    intro j u hu
    rw [← oneCell_eq]
    exact List.all_eq_true.1 h u (List.mem_of_getElem? hu)
  refine ⟨by simp [imZ], h1, fun j x u hx hu => ?_⟩
  simp only [imZ, List.getElem?_map, hu, Option.map_some, Option.some.injEq] at hx
  subst hx
  exact .imm _ _ (.val u (h1 j u hu))

theorem fill_stands (hs : SRep num C s a) (place : Nat → Option (Nat × Nat)) : ∀ (ps : List (Nat × Operand)) (qs : List (Nat × Nat × Src)) (cs r : List AV) (cur : Array Value), trParts num place ps = some qs →
    Stands num C cs cur.toList → fillAll cs (qs.map fun (o, n, x) => (o, n, s.env.ev x)) = some r → ∃ cur', Instr.fill place cur (ps.map fun (i, x) => (i, a.eval x)) = some cur' ∧ Stands num C r cur'.toList
  | [], qs, cs, r, cur, hq, hc, hr => by
    simp [trParts] at hq
    subst hq
    cases hr
    exact ⟨cur, rfl, hc⟩
  | (i, x) :: ps, qs, cs, r, cur, hq, hc, hr => by
    unfold trParts at hq
    simp only [List.mapM_cons, Option.bind_eq_bind, Option.bind_eq_some_iff, Option.pure_def, Option.some.injEq] at hq
    obtain ⟨q, hq1, l, hq2, rfl⟩ := hq
    cases hp : place i with
    | none => simp [hp] at hq1
    | some on =>
      obtain ⟨o, n⟩ := on
      cases hx : trSrc num x with
      | none => simp [hp, hx] at hq1
      | some y =>
        simp [hp, hx] at hq1
        subst hq1
        simp only [List.map_cons, fillAll] at hr
        cases hce : (s.env.ev y).cells with
        | none => simp [hce] at hr
        | some vs =>
          simp only [hce] at hr
          split at hr
          · rename_i hb
            have hst := stands_cells (src_rep hs hx) hce
            have hvl : (a.eval x).cells.size = n := by have := hst.len; simp at this; omega
            have hcl : cs.length = cur.size := by have := hc.len; simpa using this
            have hcur : ((a.eval x).cells.zipIdx.foldl (fun cs (p : Value × Nat) => cs.setIfInBounds (o + p.2) p.1) cur).toList = setAll cur.toList o (a.eval x).cells.toList := by
              rw [← Array.foldl_toList, Array.toList_zipIdx]
              exact foldl_set o _ 0 cur
            obtain ⟨cur', h1, h2⟩ := fill_stands hs place ps l (setAll cs o vs) r _ hq2 (by rw [hcur]; exact hc.setAll hst o) hr
            refine ⟨cur', ?_, h2⟩
            simp only [List.map_cons, Instr.fill, hp]
            have hsz : (((a.eval x).cells.size != n) || decide (o + (a.eval x).cells.size > cur.size)) = false := by
              simp only [Bool.or_eq_false_iff, bne_eq_false_iff_eq, decide_eq_false_iff_not]
              omega
            rw [if_neg (by simpa using hsz)]
            exact h1
          · cases hr

theorem zero_run {t : TypeId} {zs : List Value} (h : zeroCellsOf P t = some zs) (w : World) : ∃ z, (zeroValue t).run P w = .ok z w ∧ z.cells.toList = zs := by
  unfold zeroCellsOf at h
  cases hi : P.info? t with
  | none => simp [hi] at h
  | some i =>
    cases hz : i.zero with
    | none => simp [hi, hz] at h
    | some z => simp [hi, hz] at h; exact ⟨z, by simp [zeroValue, typeInfo, hi, hz], h⟩

theorem y_build (hs : SRep num C s a) {t : TypeId} {ps : Array (Nat × Operand)} {zs : List Value} (hz : zeroCellsOf P t = some zs) (hone : zs.all oneCellV = true) {place : Nat → Option (Nat × Nat)} {qs : List (Nat × Nat × Src)} (hq : trParts num place ps.toList = some qs)
    (hp : (∃ fs, P.underlying t = some (.struct fs) ∧ (fs.all fun f => known P f.type) = true ∧ place = fun (i : Nat) => (fs[i]?).map fun (f : Field) => (f.offset, P.cellsOf f.type)) ∨ (∃ n e, P.underlying t = some (.array n e) ∧ known P e = true ∧ place = fun i => some (i * P.cellsOf e, P.cellsOf e)))
    {r : List AV} (hr : fillAll (imZ zs) (qs.map fun (o, n, x) => (o, n, s.env.ev x)) = some r) : Yields num P (.build t ps) ty pos after a C s (.agg r) s := by
  obtain ⟨z, hzr, hzc⟩ := zero_run hz C.w
  obtain ⟨cur, h1, h2⟩ := fill_stands hs place ps.toList qs (imZ zs) r z.cells hq (by rw [hzc]; exact stands_zero hone) hr
  refine yields_pure (v := .agg cur) hs (fun _ _ => ?_) (.agg r cur (by have := h2.len; simpa using this) (fun j u hu => h2.one j u (by simpa using hu)) fun j x u hx hu => h2.rep j x u hx (by simpa using hu))
  have hlist : (ps.map fun (p : Nat × Operand) => (p.1, a.eval p.2)).toList = ps.toList.map fun (p : Nat × Operand) => (p.1, a.eval p.2) := by simp
  rcases hp with ⟨fs, ht, hk, rfl⟩ | ⟨n, e, ht, hk, rfl⟩
  · have hm : (fs.mapM fun (f : Field) => (do pure (f.offset, ← sizeOf f.type) : Sem (Nat × Nat))).run P C.w = .ok (fs.map fun (f : Field) => (f.offset, P.cellsOf f.type)) C.w := by
      refine run_arrayMapM _ _ C.w fs fun f hf => ?_
      have hkf : known P f.type = true := by
        rw [Array.all_eq_true_iff_forall_mem] at hk
        exact hk f hf
      obtain ⟨i, d, hi, hd, hsz, _⟩ := known_some hkf
      simp only [Sem.run_bind, run_sizeOf' hi, Result.andThen_ok, Sem.run_pure, hsz]
    simp only [execOp, Instr.build, Sem.run_bind, hzr, Result.andThen_ok, run_underlying ht, hm]
    have hpl : (fun (i : Nat) => (fs.map fun (f : Field) => (f.offset, P.cellsOf f.type))[i]?) = fun (i : Nat) => (fs[i]?).map fun (f : Field) => (f.offset, P.cellsOf f.type) := by funext i; simp
    rw [hpl, hlist, h1]
    rfl
  · obtain ⟨i, d, hi, hd, hsz, _⟩ := known_some hk
    simp only [execOp, Instr.build, Sem.run_bind, hzr, Result.andThen_ok, run_underlying ht, run_sizeOf' hi]
    rw [← hsz, hlist, h1]
    rfl

theorem copies_length {α : Type} (n : Nat) (l : List α) : (copies n l).length = n * l.length := by
  induction n with
  | zero => simp [copies]
  | succ n ih => simp [copies, ih, Nat.succ_mul, Nat.add_comm]

theorem copies_get {α : Type} (n : Nat) (l : List α) : ∀ (j : Nat), j < n * l.length → (copies n l)[j]? = l[j % l.length]? := by
  induction n with
  | zero => intro j h; simp at h
  | succ n ih =>
    intro j h
    simp only [copies]
    rcases Nat.lt_or_ge j l.length with h1 | h1
    · rw [List.getElem?_append_left h1, Nat.mod_eq_of_lt h1]
    · rw [List.getElem?_append_right h1, ih (j - l.length) (by rw [Nat.succ_mul] at h; omega)]
      congr 1
      rw [← Nat.mod_eq_sub_mod h1]

theorem range_cells (z : Array Value) (n k : Nat) (hz : z.size = k) (hk : 0 < k) : ((Array.range (n * k)).map (z[· % z.size]!)).toList = copies n z.toList := by
  apply List.ext_getElem?
  intro j
  have hzl : z.toList.length = k := by simpa using hz
  rcases Nat.lt_or_ge j (n * k) with h | h
  · rw [copies_get n z.toList j (by rw [hzl]; exact h)]
    have hm : j % k < z.size := by rw [hz]; exact Nat.mod_lt _ hk
    simp [h, hz, getElem!_pos z (j % k) hm, hm]
  · rw [List.getElem?_eq_none (by simp; exact h), List.getElem?_eq_none (by rw [copies_length, hzl]; exact h)]

theorem copies_all {n : Nat} {zs : List Value} (h : zs.all oneCellV = true) : (copies n zs).all oneCellV = true := by
  induction n with
  | zero => rfl
  | succ n ih => simp only [copies, List.all_append, h, ih]; rfl

theorem mkObj_rep {D : Cx} {id : Nat} {cs : List AV} {vs : Array Value} {e : TypeId} (h : Stands num D cs vs.toList) (hw : D.w.heap[D.σ id]? = some (.cells vs e (0, 0))) : ORep num D id (mkObj cs) := by
  unfold mkObj
  have hg : ∀ (j : Nat) x, cs[j]? = some x → ∃ u, vs[j]? = some u ∧ u.oneCell' = true ∧ ARep num D x u := by
    intro j x hx
    have hj : j < vs.toList.length := by rw [← h.len]; exact (List.getElem?_eq_some_iff.1 hx).1
    have hu : vs.toList[j]? = some vs.toList[j] := List.getElem?_eq_getElem hj
    exact ⟨vs.toList[j], by rw [← Array.getElem?_toList]; exact hu, h.one j _ hu, h.rep j x _ hx hu⟩
  split
  · rename_i xs hx
    refine ⟨vs, e, hw, fun j x hj => ?_⟩
    have := imms_get cs xs hx
    obtain ⟨u, h1, _, h3⟩ := hg j (.imm x) (by rw [this, List.getElem?_map, hj]; rfl)
    cases h3 with | imm _ _ hr => exact ⟨u, h1, hr⟩
  · exact ⟨vs, e, hw, hg⟩

theorem stands_mono {D : Cx} (t : Tr some C D) {cs : List AV} {vs : List Value} (h : Stands num C cs vs) : Stands num D cs vs := ⟨h.len, h.one, fun j x u hx hu => (h.rep j x u hx hu).mono t⟩

theorem more_osl {w1 : World} (hw1 : w1.heap = C.w.heap) (arr : Array Value) (e : TypeId) {len c sz : Nat} {cap : Option Nat} (hl : len ≤ c) (hk : ∀ k, cap = some k → c = k) (hs : c = 0 ∨ c * sz ≤ arr.size) :
    ARep num (C.more w1 (.cells arr e (0, 0))) (.osl C.n 0 sz len cap) (.slice (some ⟨C.w.heap.size, 0, none⟩) len c) := by
  have : C.w.heap.size = (C.more w1 (.cells arr e (0, 0))).σ C.n := by simp [Cx.more]
  rw [this]
  refine .osl C.n 0 sz len cap c 0 arr e (by simp [Cx.more]) hl hk (.inl rfl) ?_ (by simpa using hs)
  simp only [Cx.more, if_true]
  rw [alloc_get, if_pos (by rw [hw1])]

theorem y_buildSlice (hs : SRep num C s a) {t e : TypeId} {len : Nat} {ps : Array (Nat × Operand)} {zs : List Value} (ht : P.underlying t = some (.slice e)) (hz : zeroCellsOf P e = some zs) (hk : known P e = true) (hone : zs.all oneCellV = true) (hbig : len * P.cellsOf e ≤ 16777216)
    (h0 : 0 < P.cellsOf e) (hzl : zs.length = P.cellsOf e) {qs : List (Nat × Nat × Src)} (hq : trParts num (fun i => some (i * P.cellsOf e, P.cellsOf e)) ps.toList = some qs)
    {r : List AV} (hr : fillAll (imZ (copies len zs)) (qs.map fun (o, n, x) => (o, n, s.env.ev x)) = some r) :
    Yields num P (.buildSlice t len ps) ty pos after a C s (.osl s.mem.length 0 (P.cellsOf e) len (some len)) { s with mem := s.mem ++ [mkObj r] } := by
  obtain ⟨i, d, hi, hd, hsz, _⟩ := known_some hk
  obtain ⟨z, hzr, hzc⟩ := zero_run hz C.w
  have hzs : z.cells.size = P.cellsOf e := by rw [← hzl, ← hzc]; simp
  have hcells := range_cells z.cells len (P.cellsOf e) hzs h0
  obtain ⟨cur, h1, h2⟩ := fill_stands hs (fun i => some (i * P.cellsOf e, P.cellsOf e)) ps.toList qs (imZ (copies len zs)) r ((Array.range (len * P.cellsOf e)).map (z.cells[· % z.cells.size]!)) hq (by rw [hcells, hzc]; exact stands_zero (copies_all hone)) hr
  have hlen := hs.mem.len
  have hrl : cur.size = len * P.cellsOf e := by
    have h3 := h2.len
    have h4 : ∀ (l : List (Nat × Nat × AV)) (cs r : List AV), fillAll cs l = some r → r.length = cs.length := by
      intro l
      induction l with
      | nil => intro cs r h; cases h; rfl
      | cons x l ih =>
        intro cs r h
        obtain ⟨o, n, v⟩ := x
        simp only [fillAll] at h
        cases hv : v.cells with
        | none => simp [hv] at h
        | some vs =>
          simp only [hv] at h
          split at h
          · rw [ih _ _ h, setAll_length]
          · cases h
    have h5 := h4 _ _ _ hr
    simp only [Array.length_toList] at h3
    rw [← h3, h5]
    simp [imZ, copies_length, hzl]
  have hlist : (ps.map fun (p : Nat × Operand) => (p.1, a.eval p.2)).toList = ps.toList.map fun (p : Nat × Operand) => (p.1, a.eval p.2) := by simp
  refine ⟨.slice (some ⟨C.w.heap.size, 0, none⟩) len len, C.more C.w (.cells cur e (0, 0)), fun _ _ => .inl ?_, more_step hs.mem rfl rfl rfl rfl _ _ (mkObj_rep (e := e) (stands_mono (more_tr hs.mem rfl _) h2) ?_) hs.k, hs.env.mono (more_tr hs.mem rfl _), ?_, rfl⟩
  · have hb : ¬ (len * P.cellsOf e > 2 ^ 24) := by omega
    have hi2 : (sizeOf e).run P C.w = .ok (P.cellsOf e) C.w := by rw [run_sizeOf' hi, hsz]
    simp only [execOp, Instr.buildSlice, Sem.run_bind, run_underlying ht, Result.andThen_ok, hi2]
    rw [if_neg hb]
    by_cases h00 : len * P.cellsOf e = 0
    · have hl0 : len = 0 := by rcases Nat.mul_eq_zero.1 h00 with h | h; exact h; omega
      subst hl0
      rw [if_pos h00]
      have hemp : ((Array.range (0 * P.cellsOf e)).map ((#[] : Array Value)[· % (#[] : Array Value).size]!)) = (Array.range (0 * P.cellsOf e)).map (z.cells[· % z.cells.size]!) := by simp
      simp only [Sem.run_pure, Result.andThen_ok, hemp, hlist, h1, newRow, Sem.run_bind, run_newObj]
      rfl
    · rw [if_neg h00]
      simp only [Sem.run_bind, hzr, Result.andThen_ok, Sem.run_pure, hlist, h1, newRow, run_newObj]
      rfl
  · simp only [Cx.more, if_true]
    rw [alloc_get, if_pos rfl]
  · rw [hlen]
    exact more_osl rfl cur e (Nat.le_refl _) (fun k hk => by cases hk; rfl) (.inr (by rw [hrl]; exact Nat.le_refl _))

theorem y_makeSlice (hs : SRep num C s a) {t e : TypeId} {l c : Operand} {l' c' : Src} {zs : List Value} (ht : P.underlying t = some (.slice e)) (hz : zeroCellsOf P e = some zs) (hk : known P e = true) (hone : zs.all oneCellV = true)
    (h0 : 0 < P.cellsOf e) (hzl : zs.length = P.cellsOf e) (hl : trSrc num l = some l') (hc : trSrc num c = some c') {i j : Int} (hi : intOf (s.env.ev l') = some i) (hj : intOf (s.env.ev c') = some j) (hb : 0 ≤ i ∧ i ≤ j ∧ P.bytesOf e * j ≤ 281474976710656 ∧ j ≤ 9223372036854775807) :
    Yields num P (.makeSlice t l c) ty pos after a C s (.osl s.mem.length 0 (P.cellsOf e) i.toNat (some j.toNat)) { s with mem := s.mem ++ [.flat (copies j.toNat (zs.map .val)) false] } := by
  obtain ⟨inf, d, hinf, hd, hsz, hby⟩ := known_some hk
  obtain ⟨kl, hle, _⟩ := rep_int (src_rep hs hl) hi
  obtain ⟨kc, hce, _⟩ := rep_int (src_rep hs hc) hj
  obtain ⟨z, hzi, hzc⟩ : ∃ z, inf.zero = some z ∧ z.cells.toList = zs := by
    unfold zeroCellsOf at hz
    rw [hinf] at hz
    cases hzi : inf.zero with
    | none => simp [hzi] at hz
    | some z => simp [hzi] at hz; exact ⟨z, rfl, hz⟩
  have hzs : z.cells.size = P.cellsOf e := by rw [← hzl, ← hzc]; simp
  have hlen := hs.mem.len
  have hrun := run_make (P := P) C.w t e inf z ht hinf hzi kl kc i j hb.1 hb.2.1 (by rw [← hby]; exact hb.2.2.1) hb.2.2.2
  have hcells : (madeCells z.cells (j.toNat * inf.size)).toList = copies j.toNat zs := by
    rw [← hsz, ← hzc]; exact range_cells z.cells j.toNat (P.cellsOf e) hzs h0
  have hsize : (madeCells z.cells (j.toNat * inf.size)).size = j.toNat * P.cellsOf e := by rw [size_madeCells, hsz]
  refine ⟨.slice (some ⟨C.w.heap.size, 0, none⟩) i.toNat j.toNat, C.more C.w (.cells (madeCells z.cells (j.toNat * inf.size)) e (0, 0)), fun _ _ => .inl ?_, more_step hs.mem rfl rfl rfl rfl _ _ ?_ hs.k, hs.env.mono (more_tr hs.mem rfl _), ?_, rfl⟩
  · simp only [execOp, hle, hce, Sem.run_bind, hrun, Result.andThen_ok]
    rfl
  · refine ⟨madeCells z.cells (j.toNat * inf.size), e, ?_, fun k x hx => ?_⟩
    · simp only [Cx.more, if_true]
      rw [alloc_get, if_pos rfl]
    · have hcm : copies j.toNat (zs.map IV.val) = (copies j.toNat zs).map .val := by
        generalize j.toNat = n
        induction n with
        | zero => rfl
        | succ n ih => simp [copies, ih]
      rw [hcm, List.getElem?_map] at hx
      cases hq : (copies j.toNat zs)[k]? with
      | none => simp [hq] at hx
      | some u =>
        simp [hq] at hx
        subst hx
        rw [← hcells] at hq
        refine ⟨u, by simpa using hq, .val u ?_⟩
        rw [hcells] at hq
        rw [← oneCell_eq]
        exact List.all_eq_true.1 (copies_all hone) u (List.mem_of_getElem? hq)
  · rw [hlen]
    exact more_osl rfl _ e (by omega) (fun k hk => by cases hk; rfl) (.inr (by rw [hsize]; exact Nat.le_refl _))

end
end Go.EX
