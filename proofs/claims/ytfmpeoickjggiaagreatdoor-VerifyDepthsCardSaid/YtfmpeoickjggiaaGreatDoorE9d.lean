import Derived.Test.YtfmpeoickjggiaaGreatDoorE9c
set_option maxRecDepth 100000
set_option linter.unusedVariables false
set_option linter.unusedSimpArgs false
namespace Go.EX
def rowB (l : List Bool) : List IV := l.map fun b => .val (.bool b)
def rMem (f : Fn) (s : DS) (tk : List Bool) (mv : Bool) : Mem := [.rich (fnCells f), .rich [.osl 3 0 1 s.told.length none, avb (!s.ok)], .flat (rowB tk) false, .flat (rowI s.told) mv]
abbrev rEnv (n : Nat) (pc : Nat) (v tks lvs : Int) : Env := [(1, .optr 0 0), (4, int64 n), (5, .optr 1 0), (6, .osl 2 0 1 n (some n)), (8, int64 pc), (9, int64 v), (10, int64 tks), (11, int64 lvs)]
def handAny (pc : Nat) (d : Int) (hs : List Handler) : Bool := hs.any fun h => isB pc h.fr h.to && decide (d < h.deep)
def handS (pc : Nat) (hs : List Handler) (s : DS) : DS := hs.foldl (fun s h => if isB pc h.fr h.to = true then tellD s h.at'.toNat (h.deep + 1) else s) s
theorem handGo_any (pc : Nat) (d : Int) : ∀ (hs : List Handler) (s : DS), handGo pc d hs s = if handAny pc d hs = true then none else some (handS pc hs s)
  | [], s => rfl
  | h :: r, s => by
    rw [handGo]
    cases hb : isB pc h.fr h.to with
    | true =>
      by_cases hd : d < h.deep
      · simp [handAny, hb, hd]
      · simp [handAny, handS, hb, hd]
        rw [handGo_any pc d r]
        simp [handAny, handS]
    | false =>
      simp [handAny, handS, hb]
      rw [handGo_any pc d r]
      simp [handAny, handS]
theorem r_check (f : Fn) (s : DS) (tk : List Bool) (mv : Bool) (n pc : Nat) (v tks lvs : Int) (hD : -1000 ≤ v - tks ∧ v - tks ≤ 1000) {st : St} (hst : st.tidy [1, 4, 5, 6, 8, 9, 10, 11, 12] = ⟨0, rEnv n pc v tks lvs ++ [(12, int64 0)], rMem f s tk mv⟩) :
    ∃ e s', den code9 (extInsert 766) (.loop [1, 4, 5, 6, 8, 9, 10, 11, 12] x540L2) st = some (e, s') ∧ e ≠ .normal ∧
      ((e = .ret ∧ handAny pc (v - tks) f.handlers.xs = true ∧ ∃ mem, s' = ⟨0, [(2, nilS), (3, int64 pc)], mem⟩) ∨
       (e = .exit 4 ∧ handAny pc (v - tks) f.handlers.xs = false ∧ s' = ⟨0, rEnv n pc v tks lvs ++ [(12, int64 f.handlers.xs.length), (112, avb false)], rMem f s tk mv⟩)) := by
  have lh := reads_len f.handlers.ok
  have hb := f.handlers.ok.2.1
  have eD : IntKind.wrap .i64 (v - tks) = v - tks := wrapI64 (by omega) (by omega)
  refine loop_rule (fun m st => ∃ i, i + m = f.handlers.xs.length ∧ handAny pc (v - tks) (f.handlers.xs.take i) = false ∧ st.tidy [1, 4, 5, 6, 8, 9, 10, 11, 12] = ⟨0, rEnv n pc v tks lvs ++ [(12, int64 (i : Nat))], rMem f s tk mv⟩) _ ?_ f.handlers.xs.length _ ⟨0, by simp, by simp [handAny], hst⟩
  clear hst
  rintro m st ⟨i, hi, hall, hst⟩
  rw [hst]
  generalize hB : rowB tk = B
  generalize hT : rowI s.told = T
  generalize hnl : s.told.length = nl
  by_cases hlt : i < f.handlers.xs.length
  · have hlt' : (i : Int) < f.handlers.xs.length := by omega
    obtain ⟨row, off, cap, hiv, _, _, hget⟩ := reads_pos f.handlers.ok (List.getElem?_eq_getElem hlt)
    have htk : f.handlers.xs.take (i + 1) = f.handlers.xs.take i ++ [f.handlers.xs[i]] := by rw [List.take_add_one, List.getElem?_eq_getElem hlt]; rfl
    have hmem := List.getElem_mem hlt
    generalize f.handlers.xs[i] = h at hget hmem htk
    simp only [tHandler] at hget
    have e1 : IntKind.wrap .i64 ((i : Int) + 1) = (i : Int) + 1 := wrapI64 (by omega) (by omega)
    rw [hiv] at lh
    have hna : handAny pc (v - tks) (f.handlers.xs.take (i + 1)) = (isB pc h.fr h.to && decide (v - tks < h.deep)) := by
      rw [htk]
      have : ∀ a b, handAny pc (v - tks) (a ++ b) = (handAny pc (v - tks) a || handAny pc (v - tks) b) := fun a b => by simp [handAny]
      rw [this, hall, Bool.false_or]
      simp [handAny]
    have hmore : handAny pc (v - tks) (f.handlers.xs.take (i + 1)) = true → handAny pc (v - tks) f.handlers.xs = true := by
      intro h
      simp only [handAny, List.any_eq_true] at h ⊢
      obtain ⟨x, hx, h2⟩ := h
      exact ⟨x, List.mem_of_mem_take hx, h2⟩
    have norm : (isB pc h.fr h.to && decide (v - tks < h.deep)) = false → den code9 (extInsert 766) x540L2 ⟨0, rEnv n pc v tks lvs ++ [(12, int64 (i : Nat))], rMem f s tk mv⟩ = some (.normal, ⟨0, rEnv n pc v tks lvs ++ [(12, int64 ((i : Int) + 1))], rMem f s tk mv ++ [.rich [int64 h.fr, int64 h.to, int64 h.at', int64 h.deep]]⟩) := by
      intro hno
      simp only [rMem, fnCells, hiv, hB, hT, hnl]
      by_cases c1 : h.fr ≤ (pc : Int)
      · by_cases c2 : (pc : Int) < h.to
        · have c3 : ¬ v - tks < h.deep := by simpa [isB, c1, c2] using hno
          simp -implicitDefEqProofs [x540L2, lh, hlt, hlt', hget, c1, c2, c3, e1, eD]
        · simp -implicitDefEqProofs [x540L2, lh, hlt, hlt', hget, c1, c2, e1, eD]
      · simp -implicitDefEqProofs [x540L2, lh, hlt, hlt', hget, c1, e1, eD]
    cases hq : (isB pc h.fr h.to && decide (v - tks < h.deep)) with
    | true =>
      have c0 := hq
      simp only [isB, Bool.and_eq_true, decide_eq_true_eq] at c0
      obtain ⟨⟨c1, c2⟩, c3⟩ := c0
      refine ⟨.ret, ⟨0, [(2, nilS), (3, int64 pc)], rMem f s tk mv ++ [.rich [int64 h.fr, int64 h.to, int64 h.at', int64 h.deep]]⟩, ?_, .inr ⟨by simp, .inl ⟨rfl, hmore (by rw [hna]; exact hq), _, rfl⟩⟩⟩
      simp only [rMem, fnCells, hiv, hB, hT, hnl]
      simp -implicitDefEqProofs [x540L2, lh, hlt, hlt', hget, c1, c2, c3, e1, eD]
    | false =>
      refine ⟨_, _, norm hq, .inl ⟨rfl, m - 1, by omega, i + 1, by omega, by rw [hna]; exact hq, ?_⟩⟩
      simp only [rMem, fnCells, hiv, hB, hT, hnl]
      simp -implicitDefEqProofs []
  · have : i = f.handlers.xs.length := by omega
    subst this
    refine ⟨.exit 4, ⟨0, rEnv n pc v tks lvs ++ [(12, int64 f.handlers.xs.length), (112, avb false)], rMem f s tk mv⟩, ?_, .inr ⟨by simp, .inr ⟨rfl, by simpa using hall, rfl⟩⟩⟩
    simp only [rMem, fnCells, hB, hT, hnl]
    simp -implicitDefEqProofs [x540L2, lh]
theorem handS_app (pc : Nat) (a b : List Handler) (s : DS) : handS pc (a ++ b) s = handS pc b (handS pc a s) := by simp [handS]
theorem handS_len (pc : Nat) : ∀ (hs : List Handler) (s : DS), (handS pc hs s).told.length = s.told.length
  | [], s => rfl
  | h :: r, s => by
    have : handS pc (h :: r) s = handS pc r (if isB pc h.fr h.to = true then tellD s h.at'.toNat (h.deep + 1) else s) := rfl
    rw [this, handS_len pc r]
    split
    · rw [tellD_len]
    · rfl
theorem r_hands (f : Fn) (s : DS) (tk : List Bool) (mv : Bool) (n pc : Nat) (v tks lvs : Int) (hh : ∀ h ∈ f.handlers.xs, handOk n h = true) (hn : s.told.length = n) {st : St} (hst : st.tidy [1, 4, 5, 6, 8, 9, 10, 11, 14] = ⟨0, rEnv n pc v tks lvs ++ [(14, int64 0)], rMem f s tk mv⟩) :
    ∃ e s', den code9 (extInsert 766) (.loop [1, 4, 5, 6, 8, 9, 10, 11, 14] x540L3) st = some (e, s') ∧ e ≠ .normal ∧
      (e = .exit 6 ∧ s' = ⟨0, rEnv n pc v tks lvs ++ [(14, int64 f.handlers.xs.length), (143, avb false)], rMem f (handS pc f.handlers.xs s) tk mv⟩) := by
  have lh := reads_len f.handlers.ok
  have hb := f.handlers.ok.2.1
  refine loop_rule (fun m st => ∃ i, i + m = f.handlers.xs.length ∧ st.tidy [1, 4, 5, 6, 8, 9, 10, 11, 14] = ⟨0, rEnv n pc v tks lvs ++ [(14, int64 (i : Nat))], rMem f (handS pc (f.handlers.xs.take i) s) tk mv⟩) _ ?_ f.handlers.xs.length _ ⟨0, by simp, hst⟩
  clear hst
  rintro m st ⟨i, hi, hst⟩
  rw [hst]
  by_cases hlt : i < f.handlers.xs.length
  · have hlt' : (i : Int) < f.handlers.xs.length := by omega
    obtain ⟨row, off, cap, hiv, _, _, hget⟩ := reads_pos f.handlers.ok (List.getElem?_eq_getElem hlt)
    have htk : f.handlers.xs.take (i + 1) = f.handlers.xs.take i ++ [f.handlers.xs[i]] := by rw [List.take_add_one, List.getElem?_eq_getElem hlt]; rfl
    have hmem := List.getElem_mem hlt
    generalize f.handlers.xs[i] = h at hget hmem htk
    simp only [tHandler] at hget
    have hok := handOk_at (hh h hmem)
    have e1 : IntKind.wrap .i64 ((i : Int) + 1) = (i : Int) + 1 := wrapI64 (by omega) (by omega)
    have e2 : IntKind.wrap .i64 (h.deep + 1) = h.deep + 1 := wrapI64 (by omega) (by omega)
    rw [hiv] at lh
    have hsl : (handS pc (f.handlers.xs.take i) s).told.length = n := by rw [handS_len, hn]
    have hnext : handS pc (f.handlers.xs.take (i + 1)) s = if isB pc h.fr h.to = true then tellD (handS pc (f.handlers.xs.take i) s) h.at'.toNat (h.deep + 1) else handS pc (f.handlers.xs.take i) s := by
      rw [htk, handS_app]; rfl
    generalize handS pc (f.handlers.xs.take i) s = s1 at hsl hnext ⊢
    obtain ⟨p, hp⟩ : ∃ p : Nat, h.at' = p := ⟨h.at'.toNat, by omega⟩
    have ht := ref_tell s1 mv p (h.deep + 1) (by omega) (by omega)
    have htl := tellD_len s1 p (h.deep + 1)
    rw [hp, Int.toNat_natCast] at hnext
    unfold run9 at ht
    simp only [telMem, hsl, htl] at ht
    have key : den code9 (extInsert 766) x540L3 ⟨0, rEnv n pc v tks lvs ++ [(14, int64 (i : Nat))], rMem f s1 tk mv⟩ = some (.normal, ⟨0, rEnv n pc v tks lvs ++ [(14, int64 ((i : Int) + 1))], rMem f (handS pc (f.handlers.xs.take (i + 1)) s) tk mv ++ [.rich [int64 h.fr, int64 h.to, int64 p, int64 h.deep]]⟩) := by
      rw [hnext]
      rw [hp] at hget
      generalize tellD s1 p (h.deep + 1) = s2 at ht htl ⊢
      rw [hsl] at htl
      have hl1 := hsl
      obtain ⟨told1, todo1, ok1⟩ := s1
      obtain ⟨told2, todo2, ok2⟩ := s2
      simp only at ht htl hl1
      by_cases c1 : h.fr ≤ (pc : Int)
      · by_cases c2 : (pc : Int) < h.to
        · have c : isB pc h.fr h.to = true := by simp [isB, c1, c2]
          rw [if_pos c]
          simp only [rMem, fnCells, hiv, hl1, htl]
          generalize rowB tk = B
          generalize rowI told1 = T at *
          generalize rowI told2 = T2 at *
          simp -implicitDefEqProofs [x540L3, lh, hlt, hlt', hget, c1, c2, e1, e2, ht]
        · have c : isB pc h.fr h.to = false := by simp [isB, c2]
          rw [if_neg (by rw [c]; simp)]
          simp only [rMem, fnCells, hiv, hl1]
          generalize rowB tk = B
          generalize rowI told1 = T at *
          simp -implicitDefEqProofs [x540L3, lh, hlt, hlt', hget, c1, c2, e1]
      · have c : isB pc h.fr h.to = false := by simp [isB, c1]
        rw [if_neg (by rw [c]; simp)]
        simp only [rMem, fnCells, hiv, hl1]
        generalize rowB tk = B
        generalize rowI told1 = T at *
        simp -implicitDefEqProofs [x540L3, lh, hlt, hlt', hget, c1, e1]
    refine ⟨_, _, key, .inl ⟨rfl, m - 1, by omega, i + 1, by omega, ?_⟩⟩
    generalize handS pc (f.handlers.xs.take (i + 1)) s = s3
    simp only [rMem, fnCells]
    generalize rowB tk = B
    generalize rowI s3.told = T
    simp -implicitDefEqProofs []
  · have : i = f.handlers.xs.length := by omega
    subst this
    rw [List.take_length]
    generalize handS pc f.handlers.xs s = s1
    refine ⟨.exit 6, ⟨0, rEnv n pc v tks lvs ++ [(14, int64 f.handlers.xs.length), (143, avb false)], rMem f s1 tk mv⟩, ?_, .inr ⟨by simp, rfl, rfl⟩⟩
    simp only [rMem, fnCells]
    generalize rowB tk = B
    generalize rowI s1.told = T
    simp -implicitDefEqProofs [x540L3, lh]
def nextS (l : List Nat) (d : Int) (s : DS) : DS := l.foldl (fun s q => tellD s q d) s
theorem nextS_nexts (i : Ins) (pc : Nat) (d : Int) (s : DS) : nextS (nexts i pc) d s = nextD i pc d s := by
  unfold nextS nexts nextD
  split
  · rfl
  · split
    · rfl
    · split <;> rfl
theorem nextS_len : ∀ (l : List Nat) (d : Int) (s : DS), (nextS l d s).told.length = s.told.length
  | [], d, s => rfl
  | q :: r, d, s => by
    have : nextS (q :: r) d s = nextS r d (tellD s q d) := rfl
    rw [this, nextS_len r, tellD_len]
def castL (l : List Nat) : List Int := l.map fun (q : Nat) => (q : Int)
theorem r_nexts (f : Fn) (s : DS) (tk : List Bool) (mv : Bool) (n pc : Nat) (v tks lvs : Int) {lv : IV} {l : List Nat} (hl : Reads (tInt .i64) lv (castL l)) (hq : ∀ q ∈ l, q < n) (hn : s.told.length = n) (hD : -1000 ≤ v - tks ∧ v - tks ≤ 1000) (hD2 : 0 ≤ v - tks + lvs ∧ v - tks + lvs ≤ 1000)
    {st : St} (hst : st.tidy [1, 4, 5, 6, 8, 9, 10, 11, 16, 17] = ⟨0, rEnv n pc v tks lvs ++ [(16, .imm lv), (17, int64 0)], rMem f s tk mv⟩) :
    ∃ e s', den code9 (extInsert 766) (.loop [1, 4, 5, 6, 8, 9, 10, 11, 16, 17] x540L4) st = some (e, s') ∧ e ≠ .normal ∧
      (e = .exit 8 ∧ s' = ⟨0, rEnv n pc v tks lvs ++ [(16, .imm lv), (17, int64 l.length), (174, avb false)], rMem f (nextS l (v - tks + lvs) s) tk mv⟩) := by
  have lh := reads_len hl
  have hb := hl.2.1
  have hcl : (castL l).length = l.length := by simp [castL]
  rw [hcl] at lh hb
  have eD : IntKind.wrap .i64 (v - tks) = v - tks := wrapI64 (by omega) (by omega)
  have eD2 : IntKind.wrap .i64 (v - tks + lvs) = v - tks + lvs := wrapI64 (by omega) (by omega)
  refine loop_rule (fun m st => ∃ i, i + m = l.length ∧ st.tidy [1, 4, 5, 6, 8, 9, 10, 11, 16, 17] = ⟨0, rEnv n pc v tks lvs ++ [(16, .imm lv), (17, int64 (i : Nat))], rMem f (nextS (l.take i) (v - tks + lvs) s) tk mv⟩) _ ?_ l.length _ ⟨0, by simp, hst⟩
  clear hst
  rintro m st ⟨i, hi, hst⟩
  rw [hst]
  by_cases hlt : i < l.length
  · have hlt' : (i : Int) < l.length := by omega
    have hci : (castL l)[i]? = some ((l[i] : Nat) : Int) := by simp [castL, hlt]
    obtain ⟨row, off, cap, rfl, _, _, hget⟩ := reads_pos hl hci
    rw [hcl] at *
    have htk : l.take (i + 1) = l.take i ++ [l[i]] := by rw [List.take_add_one, List.getElem?_eq_getElem hlt]; rfl
    have hq1 := hq _ (List.getElem_mem hlt)
    generalize l[i] = q at *
    simp only [tInt, Nat.mul_one] at hget
    replace hget := cut_one hget
    have e1 : IntKind.wrap .i64 ((i : Int) + 1) = (i : Int) + 1 := wrapI64 (by omega) (by omega)
    have hsl : (nextS (l.take i) (v - tks + lvs) s).told.length = n := by rw [nextS_len, hn]
    have hnext : nextS (l.take (i + 1)) (v - tks + lvs) s = tellD (nextS (l.take i) (v - tks + lvs) s) q (v - tks + lvs) := by
      rw [htk]; simp [nextS]
    generalize nextS (l.take i) (v - tks + lvs) s = s1 at hsl hnext ⊢
    have ht := ref_tell s1 mv q (v - tks + lvs) (by omega) hD2.1
    have htl := tellD_len s1 q (v - tks + lvs)
    unfold run9 at ht
    simp only [telMem, hsl, htl] at ht
    have key : den code9 (extInsert 766) x540L4 ⟨0, rEnv n pc v tks lvs ++ [(16, .imm (.slice row off l.length cap)), (17, int64 (i : Nat))], rMem f s1 tk mv⟩ = some (.normal, ⟨0, rEnv n pc v tks lvs ++ [(16, .imm (.slice row off l.length cap)), (17, int64 ((i : Int) + 1))], rMem f (nextS (l.take (i + 1)) (v - tks + lvs) s) tk mv⟩) := by
      rw [hnext]
      generalize tellD s1 q (v - tks + lvs) = s2 at ht htl ⊢
      rw [hsl] at htl
      obtain ⟨told1, todo1, ok1⟩ := s1
      obtain ⟨told2, todo2, ok2⟩ := s2
      simp only at ht htl hsl
      simp only [rMem, fnCells, hsl, htl]
      generalize rowB tk = B
      generalize rowI told1 = T at *
      generalize rowI told2 = T2 at *
      simp -implicitDefEqProofs [x540L4, hlt, hlt', hget, e1, eD, eD2, ht]
    refine ⟨_, _, key, .inl ⟨rfl, m - 1, by omega, i + 1, by omega, ?_⟩⟩
    generalize nextS (l.take (i + 1)) (v - tks + lvs) s = s3
    simp only [rMem, fnCells]
    generalize rowB tk = B
    generalize rowI s3.told = T
    simp -implicitDefEqProofs []
  · have : i = l.length := by omega
    subst this
    rw [List.take_length]
    generalize nextS l (v - tks + lvs) s = s1
    refine ⟨.exit 8, ⟨0, rEnv n pc v tks lvs ++ [(16, .imm lv), (17, int64 l.length), (174, avb false)], rMem f s1 tk mv⟩, ?_, .inr ⟨by simp, rfl, rfl⟩⟩
    simp only [rMem, fnCells]
    generalize rowB tk = B
    generalize rowI s1.told = T
    simp -implicitDefEqProofs [x540L4, lh]
def minL (pc : Nat) (l : List Nat) : Nat := l.foldl (fun m q => if q < m then q else m) pc
theorem minL_app (pc : Nat) (a b : List Nat) : minL pc (a ++ b) = minL (minL pc a) b := by simp [minL]
theorem minL_le : ∀ (l : List Nat) (pc : Nat), minL pc l ≤ pc ∧ ∀ q ∈ l, minL pc l ≤ q
  | [], pc => ⟨Nat.le_refl _, fun q h => by cases h⟩
  | x :: r, pc => by
    have : minL pc (x :: r) = minL (if x < pc then x else pc) r := rfl
    rw [this]
    by_cases hc : x < pc
    · rw [if_pos hc]
      obtain ⟨h1, h2⟩ := minL_le r x
      exact ⟨by omega, fun q hq => by
        rcases List.mem_cons.1 hq with rfl | hq
        · exact h1
        · exact h2 q hq⟩
    · rw [if_neg hc]
      obtain ⟨h1, h2⟩ := minL_le r pc
      exact ⟨h1, fun q hq => by
        rcases List.mem_cons.1 hq with rfl | hq
        · omega
        · exact h2 q hq⟩
theorem r_min (f : Fn) (s : DS) (tk : List Bool) (mv : Bool) (n pc : Nat) {lv : IV} {l : List Nat} (hl : Reads (tInt .i64) lv (castL l))
    {st : St} (hst : st.tidy [1, 4, 5, 6, 8, 16, 18] = ⟨0, [(1, .optr 0 0), (4, int64 n), (5, .optr 1 0), (6, .osl 2 0 1 n (some n)), (8, int64 pc), (16, .imm lv), (18, int64 0)], rMem f s tk mv⟩) :
    ∃ e s', den code9 (extInsert 766) (.loop [1, 4, 5, 6, 8, 16, 18] x540L5) st = some (e, s') ∧ e ≠ .normal ∧
      (e = .exit 10 ∧ s' = ⟨0, [(1, .optr 0 0), (4, int64 n), (5, .optr 1 0), (6, .osl 2 0 1 n (some n)), (8, int64 (minL pc l)), (16, .imm lv), (18, int64 l.length), (196, avb false)], rMem f s tk mv⟩) := by
  have lh := reads_len hl
  have hb := hl.2.1
  have hcl : (castL l).length = l.length := by simp [castL]
  rw [hcl] at lh hb
  refine loop_rule (fun m st => ∃ i, i + m = l.length ∧ st.tidy [1, 4, 5, 6, 8, 16, 18] = ⟨0, [(1, .optr 0 0), (4, int64 n), (5, .optr 1 0), (6, .osl 2 0 1 n (some n)), (8, int64 (minL pc (l.take i) : Nat)), (16, .imm lv), (18, int64 (i : Nat))], rMem f s tk mv⟩) _ ?_ l.length _ ⟨0, by simp, hst⟩
  clear hst
  rintro m st ⟨i, hi, hst⟩
  rw [hst]
  simp only [rMem, fnCells]
  generalize rowB tk = B
  generalize rowI s.told = T
  generalize s.told.length = nl
  by_cases hlt : i < l.length
  · have hlt' : (i : Int) < l.length := by omega
    have hci : (castL l)[i]? = some ((l[i] : Nat) : Int) := by simp [castL, hlt]
    obtain ⟨row, off, cap, rfl, _, _, hget⟩ := reads_pos hl hci
    rw [hcl] at *
    have htk : l.take (i + 1) = l.take i ++ [l[i]] := by rw [List.take_add_one, List.getElem?_eq_getElem hlt]; rfl
    generalize l[i] = q at *
    simp only [tInt, Nat.mul_one] at hget
    replace hget := cut_one hget
    have e1 : IntKind.wrap .i64 ((i : Int) + 1) = (i : Int) + 1 := wrapI64 (by omega) (by omega)
    have hnext : minL pc (l.take (i + 1)) = if q < minL pc (l.take i) then q else minL pc (l.take i) := by
      rw [htk, minL_app]; rfl
    generalize minL pc (l.take i) = p1 at *
    by_cases hc : q < p1
    · rw [if_pos hc] at hnext
      have hc' : (q : Int) < p1 := by omega
      refine ⟨.normal, ⟨0, [(1, .optr 0 0), (4, int64 n), (5, .optr 1 0), (6, .osl 2 0 1 n (some n)), (8, int64 q), (16, .imm (.slice row off l.length cap)), (18, int64 ((i : Int) + 1))], [.rich [.imm (.val (.string f.name)), int64 f.params, int64 f.locals, .imm f.caps.iv, .imm f.consts.iv, .imm f.code.iv, .imm f.lines.iv, .imm f.handlers.iv], .rich [.osl 3 0 1 nl none, avb (!s.ok)], .flat B false, .flat T mv]⟩, ?_, .inl ⟨rfl, m - 1, by omega, i + 1, by omega, by rw [hnext]; simp -implicitDefEqProofs []⟩⟩
      simp -implicitDefEqProofs [x540L5, hlt, hlt', hget, e1, hc, hc']
    · rw [if_neg hc] at hnext
      have hc' : ¬ (q : Int) < p1 := by omega
      refine ⟨.normal, ⟨0, [(1, .optr 0 0), (4, int64 n), (5, .optr 1 0), (6, .osl 2 0 1 n (some n)), (8, int64 p1), (16, .imm (.slice row off l.length cap)), (18, int64 ((i : Int) + 1))], [.rich [.imm (.val (.string f.name)), int64 f.params, int64 f.locals, .imm f.caps.iv, .imm f.consts.iv, .imm f.code.iv, .imm f.lines.iv, .imm f.handlers.iv], .rich [.osl 3 0 1 nl none, avb (!s.ok)], .flat B false, .flat T mv]⟩, ?_, .inl ⟨rfl, m - 1, by omega, i + 1, by omega, by rw [hnext]; simp -implicitDefEqProofs []⟩⟩
      simp -implicitDefEqProofs [x540L5, hlt, hlt', hget, e1, hc, hc']
  · have : i = l.length := by omega
    subst this
    rw [List.take_length]
    refine ⟨.exit 10, ⟨0, [(1, .optr 0 0), (4, int64 n), (5, .optr 1 0), (6, .osl 2 0 1 n (some n)), (8, int64 (minL pc l)), (16, .imm lv), (18, int64 l.length), (196, avb false)], [.rich [.imm (.val (.string f.name)), int64 f.params, int64 f.locals, .imm f.caps.iv, .imm f.consts.iv, .imm f.code.iv, .imm f.lines.iv, .imm f.handlers.iv], .rich [.osl 3 0 1 nl none, avb (!s.ok)], .flat B false, .flat T mv]⟩, ?_, .inr ⟨by simp, rfl, rfl⟩⟩
    simp -implicitDefEqProofs [x540L5, lh]
end Go.EX

