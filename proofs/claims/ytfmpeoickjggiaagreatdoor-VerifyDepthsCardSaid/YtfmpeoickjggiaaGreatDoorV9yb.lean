import Derived.Test.YtfmpeoickjggiaaGreatDoorV9ya
set_option maxRecDepth 100000
set_option linter.unusedVariables false
set_option linter.unusedSimpArgs false
namespace Go.EX
def twRow : Nat → List Fn → List AV
  | _, [] => []
  | j, f :: r => twCells (j + 1) f ++ twRow (j + 1) r
def zeroFn : List AV := [.imm (.val (.string .empty)), int64 0, int64 0, nilS, nilS, nilS, nilS, nilS]
def spareFn : List AV := [.imm (.val (.string ⟨#[115, 112, 97, 114, 101]⟩)), int64 0, int64 0, nilS, nilS, nilS, nilS, nilS]
def lobj (f : Fn) : AObj := .flat (rowI (f.lines.xs ++ [7777])) false
theorem twRow_len : ∀ (fs : List Fn) (j : Nat), (twRow j fs).length = fs.length * 8
  | [], j => rfl
  | f :: r, j => by rw [twRow, List.length_append, twRow_len r]; simp [twCells]; omega
theorem twRow_app : ∀ (fs : List Fn) (j : Nat) (f : Fn), twRow j (fs ++ [f]) = twRow j fs ++ twCells (j + fs.length + 1) f
  | [], j, f => by simp [twRow]
  | g :: r, j, f => by simp only [List.cons_append, twRow, twRow_app r, List.append_assoc, List.length_cons]; congr 3; omega
theorem refsL_app : ∀ (a b : List AV), AV.refs.refsL (a ++ b) = AV.refs.refsL a ++ AV.refs.refsL b
  | [], b => rfl
  | x :: a, b => by simp only [List.cons_append, AV.refs.refsL, refsL_app a b, List.append_assoc]
theorem twRow_refs : ∀ (fs : List Fn) (j : Nat), AV.refs.refsL (twRow j fs) = (List.range fs.length).map (· + (j + 1))
  | [], j => rfl
  | f :: r, j => by
    rw [twRow, refsL_app, twRow_refs r]
    rw [List.length_cons, List.range_succ_eq_map, List.map_cons, List.map_map]
    simp only [twCells, AV.refs.refsL, AV.refs, List.nil_append, List.append_nil, List.cons_append, Nat.zero_add]
    congr 1
    refine List.map_congr_left fun x _ => ?_
    simp only [Function.comp]; omega
theorem zero_refs : ∀ n, AV.refs.refsL (copies n zeroFn) = []
  | 0 => rfl
  | n + 1 => by rw [copies, refsL_app, zero_refs n]; rfl
theorem copies_len {β : Type} (l : List β) : ∀ n, (copies n l).length = n * l.length
  | 0 => by simp
  | n + 1 => by rw [copies, List.length_append, copies_len l n, Nat.add_mul, Nat.one_mul, Nat.add_comm]
def RowObj (cells : List AV) (o : AObj) : Prop := o = .rich cells ∨ ∃ cs, o = .flat cs false ∧ cells = cs.map .imm
theorem rowObj_refs {cells : List AV} {o : AObj} (h : RowObj cells o) : o.refs = AV.refs.refsL cells := by
  rcases h with rfl | ⟨cs, rfl, rfl⟩
  · rfl
  · have : ∀ l : List IV, AV.refs.refsL (l.map .imm) = [] := by
      intro l; induction l with
      | nil => rfl
      | cons x l ih => simp only [List.map_cons, AV.refs.refsL, AV.refs, ih, List.append_nil]
    rw [this]; rfl
theorem rowObj_rich {cells : List AV} {o : AObj} (h : RowObj cells o) (r : Mem) : richOf (o :: r) 0 = some cells := by
  rcases h with rfl | ⟨cs, rfl, rfl⟩ <;> rfl
theorem ap_row (e : Env) {o a : AObj} {los : List AObj} {cells one : List AV} (i c : Nat) (ho : RowObj cells o) (h1 : imms one = none) (h2 : one.length = 8) (h3 : i + 1 ≤ c) (h4 : (i + 1) * 8 ≤ cells.length) :
    exAppendX ⟨0, e, o :: (los ++ [a, .rich one])⟩ 8 152 (.osl 0 0 8 i (some c)) (.osl (los.length + 2) 0 8 1 (some 1)) = some (.osl 0 0 8 (i + 1) (some c), ⟨0, e, .rich (setAll cells (i * 8) one) :: (los ++ [a, .rich one])⟩) := by
  have hg : (o :: (los ++ [a, .rich one]))[los.length + 2]? = some (.rich one) := by
    rw [List.getElem?_cons_succ, List.getElem?_append_right (by omega)]
    simp
  have hcut : cut one 0 (1 * 8) = some one := cut_all _ (by omega)
  have hel : elems (o :: (los ++ [a, .rich one])) 8 (.osl (los.length + 2) 0 8 1 (some 1)) = none := by
    simp only [elems, hg, hcut, h1, Option.map_none]
  have hel2 : elemsR (o :: (los ++ [a, .rich one])) 8 (.osl (los.length + 2) 0 8 1 (some 1)) = some (1, one) := by
    simp only [elemsR, hg, hcut, Option.map_some]
  simp only [exAppendX, exAppend, hel, exAppendR, hel2, rowObj_rich ho]
  simp [h3, h4]
theorem ap_spare (e : Env) {o : AObj} {los : List AObj} {cells : List AV} (i c : Nat) (sp : List IV) (ho : RowObj cells o) (h2 : sp.length = 8) (h3 : i + 1 ≤ c) (h4 : (i + 1) * 8 ≤ cells.length) :
    ∃ o2, RowObj (setAll cells (i * 8) (sp.map .imm)) o2 ∧ exAppendX ⟨0, e, o :: (los ++ [.flat sp false])⟩ 8 152 (.osl 0 0 8 i (some c)) (.osl (los.length + 1) 0 8 1 (some 1)) = some (.osl 0 0 8 (i + 1) (some c), ⟨0, e, o2 :: (los ++ [.flat sp false])⟩) := by
  have hg : (o :: (los ++ [.flat sp false]))[los.length + 1]? = some (.flat sp false) := by
    rw [List.getElem?_cons_succ, List.getElem?_append_right (by omega)]
    simp
  have hcut : cut sp 0 (1 * 8) = some sp := cut_all _ (by omega)
  have hel : elems (o :: (los ++ [.flat sp false])) 8 (.osl (los.length + 1) 0 8 1 (some 1)) = some (1, sp) := by
    simp only [elems, hg, hcut, Option.map_some]
  have hel2 : elemsR (o :: (los ++ [.flat sp false])) 8 (.osl (los.length + 1) 0 8 1 (some 1)) = some (1, sp.map .imm) := by
    simp only [elemsR, hg, hcut, Option.map_some]
  rcases ho with rfl | ⟨cs, rfl, rfl⟩
  · refine ⟨_, .inl rfl, ?_⟩
    simp only [exAppendX, exAppend, hel, List.getElem?_cons_zero, if_true, exAppendR, hel2, richOf]
    simp [h3, h4]
  · have hmap : ∀ (ys l : List IV) (k : Nat), setAll (l.map AV.imm) k (ys.map AV.imm) = (setAll l k ys).map AV.imm := by
      intro ys
      induction ys with
      | nil => intro l k; rfl
      | cons y ys ih => intro l k; simp only [List.map_cons, setAll, ← List.map_set, ih]
    refine ⟨.flat (setAll cs (i * 8) sp) false, .inr ⟨_, rfl, hmap _ _ _⟩, ?_⟩
    rw [List.length_map] at h4
    simp only [exAppendX, exAppend, hel, List.getElem?_cons_zero, if_true]
    simp [h3, h4]
theorem rows_mk {o : AObj} {fs : List Fn} {n : Nat} {los : List AObj} (h : RowObj (twRow 0 fs ++ copies n zeroFn) o) (hl : los = fs.map lobj) : Rows1 o los := by
  subst hl
  refine ⟨?_, fun l hl => ?_⟩
  · rw [rowObj_refs h, refsL_app, twRow_refs, zero_refs, List.append_nil, List.length_map, Nat.zero_add]
  · obtain ⟨f, _, rfl⟩ := List.mem_map.1 hl
    exact ⟨_, _, rfl⟩
theorem set_mid {β : Type} (A B C D : List β) (h : B.length = D.length) {k : Nat} (hk : A.length = k) : setAll (A ++ (B ++ C)) k D = A ++ (D ++ C) := by
  subst hk
  refine List.ext_getElem? fun j => ?_
  rw [setAll_at _ _ _ _ (by simp only [List.length_append]; omega)]
  simp only [List.getElem?_append]
  by_cases h1 : j < A.length
  · rw [if_neg (by omega), if_pos h1, if_pos h1]
  · by_cases h2 : j - A.length < D.length
    · rw [if_pos (by omega), if_neg h1, if_pos h2]
    · rw [if_neg (by omega), if_neg h1, if_neg h1, if_neg (by omega), if_neg h2, h]
theorem fns_loop {iv : IV} {xs : List Fn} (hr : Reads tFn iv xs) (hl : xs.length ≤ 1048576) (hs : ∀ f ∈ xs, Small f) :
    ∃ e s', den code9 (extInsert 766) (.loop [0, 3, 4] x368L1) ⟨0, [(0, .imm iv), (3, .osl 0 0 8 0 (some (xs.length + 1))), (4, int64 0)], [.flat (copies (xs.length + 1) [.val (.string .empty), .val (.int .i64 0), .val (.int .i64 0), .val (.slice none 0 0), .val (.slice none 0 0), .val (.slice none 0 0), .val (.slice none 0 0), .val (.slice none 0 0)]) false]⟩ = some (e, s') ∧ e ≠ .normal ∧
      (e = .exit 0 ∧ ∃ o, RowObj (twRow 0 xs ++ copies 1 zeroFn) o ∧ s' = ⟨0, [(0, .imm iv), (3, .osl 0 0 8 xs.length (some (xs.length + 1))), (4, int64 xs.length), (12, avb false)], o :: xs.map lobj⟩) := by
  have hlen := reads_len hr
  have hcm : ∀ n, (copies n zeroFn) = (copies n [IV.val (.string .empty), .val (.int .i64 0), .val (.int .i64 0), .val (.slice none 0 0), .val (.slice none 0 0), .val (.slice none 0 0), .val (.slice none 0 0), .val (.slice none 0 0)]).map .imm := by
    intro n; induction n with
    | zero => rfl
    | succ n ih => rw [copies, copies, List.map_append, ← ih]; rfl
  refine loop_rule (fun n s => ∃ i o, i + n = xs.length ∧ RowObj (twRow 0 (xs.take i) ++ copies (n + 1) zeroFn) o ∧ s.tidy [0, 3, 4] = ⟨0, [(0, .imm iv), (3, .osl 0 0 8 i (some (xs.length + 1))), (4, int64 (i : Nat))], o :: (xs.take i).map lobj⟩) _ ?_ xs.length _ ⟨0, _, by simp, .inr ⟨_, rfl, by simpa [twRow] using hcm _⟩, by simp -implicitDefEqProofs []⟩
  rintro n s ⟨i, o, hi, ho, hst⟩
  rw [hst]
  by_cases hlt : i < xs.length
  · have hsm := hs _ (List.getElem_mem hlt)
    obtain ⟨row, off, cap, rfl, hc, hcut, hget⟩ := reads_pos hr (List.getElem?_eq_getElem hlt)
    have e1 : IntKind.wrap .i64 ((i : Int) + 1) = (i : Int) + 1 := wrapI64 (by omega) (by omega)
    obtain ⟨m, rfl⟩ : ∃ m, n = m + 1 := ⟨n - 1, by omega⟩
    have hlt' : (i : Int) < xs.length := by omega
    have htk : xs.take (i + 1) = xs.take i ++ [xs[i]] := by rw [List.take_add_one, List.getElem?_eq_getElem hlt]; rfl
    have hti : (xs.take i).length = i := by rw [List.length_take]; omega
    generalize xs[i] = f at hget htk hsm
    generalize hF : xs.take i = F at ho htk hti hst ⊢
    simp only [tFn] at hget
    have ht := twin367 f hsm
    unfold run9 fnAV at ht
    have hlos : (F.map lobj).length = i := by simp [hti]
    have hap := fun e => ap_row e (a := lobj f) (los := F.map lobj) (one := twCells (i + 1) f) i (xs.length + 1) ho rfl rfl (by omega) (by simp only [List.length_append, twRow_len, copies_len, hti]; simp [zeroFn]; omega)
    have hset : setAll (twRow 0 F ++ copies (m + 1 + 1) zeroFn) (i * 8) (twCells (i + 1) f) = twRow 0 (F ++ [f]) ++ copies (m + 1) zeroFn := by
      rw [copies, set_mid _ zeroFn _ (twCells (i + 1) f) (by simp [zeroFn, twCells]) (by rw [twRow_len, hti]), twRow_app, Nat.zero_add, hti, List.append_assoc]
    rw [hset, hlos] at hap
    have hrows : Rows1 (.rich (twRow 0 (F ++ [f]) ++ copies (m + 1) zeroFn)) ((F ++ [f]).map lobj) := rows_mk (n := m + 1) (.inl rfl) rfl
    refine ⟨.normal, ⟨0, [(0, .imm (.slice row off xs.length cap)), (3, .osl 0 0 8 (i + 1) (some (xs.length + 1))), (4, int64 ((i : Int) + 1))], .rich (twRow 0 (F ++ [f]) ++ copies (m + 1) zeroFn) :: (((F ++ [f]).map lobj) ++ [.rich (twCells (i + 1) f)])⟩, ?_, .inl ⟨rfl, m, by omega, i + 1, .rich (twRow 0 (F ++ [f]) ++ copies (m + 1) zeroFn), by omega, ?_, ?_⟩⟩
    rotate_left
    · rw [htk]; exact .inl rfl
    · rw [tidy_rows hrows (by simp; omega) _ _ (by simp) (fun f hf => by simp [hf]), htk]
      simp
    simp only [twCells, lobj] at hap ht ⊢
    simp -implicitDefEqProofs [x368L1, hlt', hlt, hget, e1, ht, hap, frz_flat, hlos, hti, mkObj, lobj]
  · have : i = xs.length := by omega
    subst this
    have : n = 0 := by omega
    subst this
    rw [List.take_length] at ho ⊢
    refine ⟨.exit 0, ⟨0, [(0, .imm iv), (3, .osl 0 0 8 xs.length (some (xs.length + 1))), (4, int64 xs.length), (12, avb false)], o :: xs.map lobj⟩, ?_, .inr ⟨by simp, rfl, o, ho, rfl⟩⟩
    simp -implicitDefEqProofs [x368L1, hlen]
theorem map_ren_some (l : List AObj) : l.map (AObj.ren fun i => some i) = l := by
  induction l with
  | nil => rfl
  | cons o l ih => rw [List.map_cons, ih]; congr 1; exact obj_ren_some o
theorem twin368 {iv : IV} {xs : List Fn} (hr : Reads tFn iv xs) (hl : xs.length ≤ 1048576) (hs : ∀ f ∈ xs, Small f) :
    ∃ o, RowObj (twRow 0 xs ++ spareFn) o ∧ run9 368 [.imm iv] [] = some (.osl 0 0 8 xs.length (some (xs.length + 1)), o :: xs.map lobj) := by
  have hlen := reads_len hr
  obtain ⟨e, s', h1, _, rfl, o, ho, rfl⟩ := fns_loop hr hl hs
  obtain ⟨o2, ho2, hap⟩ : ∃ o2, RowObj (twRow 0 xs ++ spareFn) o2 ∧ ∀ e, exAppendX ⟨0, e, o :: (xs.map lobj ++ [.flat [.val (.string ⟨#[115, 112, 97, 114, 101]⟩), .val (.int .i64 0), .val (.int .i64 0), .val (.slice none 0 0), .val (.slice none 0 0), .val (.slice none 0 0), .val (.slice none 0 0), .val (.slice none 0 0)] false])⟩ 8 152
      (.osl 0 0 8 xs.length (some (xs.length + 1))) (.osl (xs.length + 1) 0 8 1 (some 1)) = some (.osl 0 0 8 (xs.length + 1) (some (xs.length + 1)), ⟨0, e, o2 :: (xs.map lobj ++ [.flat [.val (.string ⟨#[115, 112, 97, 114, 101]⟩), .val (.int .i64 0), .val (.int .i64 0), .val (.slice none 0 0), .val (.slice none 0 0), .val (.slice none 0 0), .val (.slice none 0 0), .val (.slice none 0 0)] false])⟩) := by
    have hset : setAll (twRow 0 xs ++ copies 1 zeroFn) (xs.length * 8) spareFn = twRow 0 xs ++ spareFn := by
      rw [copies, copies, set_mid _ zeroFn _ spareFn (by simp [zeroFn, spareFn]) (by rw [twRow_len]), List.append_nil]
    obtain ⟨o2, h2, h3⟩ := ap_spare [] (los := xs.map lobj) xs.length (xs.length + 1) [.val (.string ⟨#[115, 112, 97, 114, 101]⟩), .val (.int .i64 0), .val (.int .i64 0), .val (.slice none 0 0), .val (.slice none 0 0), .val (.slice none 0 0), .val (.slice none 0 0), .val (.slice none 0 0)] ho rfl (by omega)
      (by simp only [List.length_append, twRow_len, copies_len]; simp [zeroFn]; omega)
    rw [show List.map AV.imm [IV.val (.string ⟨#[115, 112, 97, 114, 101]⟩), .val (.int .i64 0), .val (.int .i64 0), .val (.slice none 0 0), .val (.slice none 0 0), .val (.slice none 0 0), .val (.slice none 0 0), .val (.slice none 0 0)] = spareFn from rfl, hset] at h2
    refine ⟨o2, h2, fun e => ?_⟩
    obtain ⟨f, h4, h5, h6⟩ := appendX_env h3
    have h7 := h6 e
    rw [List.length_map] at h7
    simp only [Env.ren] at h4
    rw [h7]
    obtain ⟨o3, h8, h9⟩ := ap_spare e (los := xs.map lobj) xs.length (xs.length + 1) [.val (.string ⟨#[115, 112, 97, 114, 101]⟩), .val (.int .i64 0), .val (.int .i64 0), .val (.slice none 0 0), .val (.slice none 0 0), .val (.slice none 0 0), .val (.slice none 0 0), .val (.slice none 0 0)] ho rfl (by omega)
      (by simp only [List.length_append, twRow_len, copies_len]; simp [zeroFn]; omega)
    rw [List.length_map] at h9
    rw [h9] at h7
    simp only [Option.some.injEq, Prod.mk.injEq, St.mk.injEq, true_and] at h7
    rw [← h7.1]
  have hrows : Rows1 o2 (xs.map lobj) := by
    refine ⟨?_, fun l hl => ?_⟩
    · rw [rowObj_refs ho2, refsL_app, twRow_refs, List.length_map, Nat.zero_add]; simp [spareFn, AV.refs.refsL, AV.refs]
    · obtain ⟨f, _, rfl⟩ := List.mem_map.1 hl
      exact ⟨_, _, rfl⟩
  obtain ⟨hord, hpick⟩ := leave_rows (junk := [.flat [.val (.string ⟨#[115, 112, 97, 114, 101]⟩), .val (.int .i64 0), .val (.int .i64 0), .val (.slice none 0 0), .val (.slice none 0 0), .val (.slice none 0 0), .val (.slice none 0 0), .val (.slice none 0 0)] false]) hrows (by simp; omega)
  rw [List.length_map] at hord hpick
  have hplace : place (List.range (xs.length + 1)) 0 = some 0 := place_range (by omega)
  have e1 : IntKind.wrap .i64 ((xs.length : Int) + 1) = (xs.length : Int) + 1 := wrapI64 (by omega) (by omega)
  have e2 : (0 : Int) ≤ (xs.length : Int) + 1 := by omega
  have e3 : (152 : Int) * ((xs.length : Int) + 1) ≤ 281474976710656 := by omega
  have e4 : (xs.length : Int) + 1 ≤ 9223372036854775807 := by omega
  have e6 : (xs.length : Int) ≤ (xs.length : Int) + 1 := by omega
  have e5 : ((xs.length : Int) + 1).toNat = xs.length + 1 := by omega
  refine ⟨o2, ho2, ?_⟩
  unfold run9
  rw [callW_fun code9 (extInsert 766) (rfl : code9 368 = some x368)]
  simp -implicitDefEqProofs [x368, hlen, e1, e2, e3, e4, e5, e6, h1, hap, exSlice, mkObj, hord, hpick, hplace, -order, -reach, -Mem.pickAll, -List.range_succ]
theorem twin374 {iv : IV} {xs : List Fn} (hr : Reads tFn iv xs) (hl : xs.length ≤ 1048576) (hs : ∀ f ∈ xs, Small f) :
    ∃ o, RowObj (twRow 0 xs ++ spareFn) o ∧ run9 374 [.imm iv] [] = some (.osl 0 0 8 xs.length (some (xs.length + 1)), o :: xs.map lobj) := by
  obtain ⟨o, ho, h⟩ := twin368 hr hl hs
  have hrows : Rows1 o (xs.map lobj) := by
    refine ⟨?_, fun l hl => ?_⟩
    · rw [rowObj_refs ho, refsL_app, twRow_refs, List.length_map, Nat.zero_add]; simp [spareFn, AV.refs.refsL, AV.refs]
    · obtain ⟨f, _, rfl⟩ := List.mem_map.1 hl
      exact ⟨_, _, rfl⟩
  obtain ⟨hord, hpick⟩ := leave_rows (junk := []) hrows (by simp; omega)
  rw [List.length_map, List.append_nil] at hord hpick
  have hplace : place (List.range (xs.length + 1)) 0 = some 0 := place_range (by omega)
  have hmap := map_ren_some (xs.map lobj)
  have ho2 : AObj.ren (fun i => some i) o = o := obj_ren_some o
  refine ⟨o, ho, ?_⟩
  unfold run9 at *
  rw [callW_fun code9 (extInsert 766) (rfl : code9 374 = some x374)]
  simp -implicitDefEqProofs [x374, h, hord, hpick, hplace, hmap, ho2, -order, -reach, -Mem.pickAll, -List.range_succ, -List.map_map, -AObj.ren]
end Go.EX

