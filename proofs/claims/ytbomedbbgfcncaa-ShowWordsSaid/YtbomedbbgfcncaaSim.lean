/-
  EX: stepping through code by simp.
-/
import Derived.Test.YtbomedbbgfcncaaData
import Derived.Test.YtbomedbbgfcncaaDen
import Derived.Laws.Strings
set_option linter.unusedVariables false
set_option linter.unusedSimpArgs false
namespace Go.EX

attribute [simp] List.range_succ funOut den_seq den_region den_ret den_cond den_exit den_skip den_block blockOut andThen exOps exOne exOp Env.ev Env.get Env.keep enter AV.cells fresh loadAt getCells getCellsI valBin boolBin intBin shiftBin strBin valUn intOf bndOf bounds
  storeAt imms leave resOf wrapRes order reach Mem.refs AObj.refs AV.refs AV.refs.refsL Mem.pickAll AObj.ren AV.ren AV.ren.renL place fillAll mkObj imZ sameCells St.tidy Env.roots Env.ren AV.plain1 AV.plain2 AV.plain AV.own1 AV.own2 AV.own IV.plain AObj.own AObj.live AV.isImm exView exOwn exShare frz frz.frz1 frzV AObj.moved AObj.orMoved shareAt St.scrub isKeyAV zeroAV

@[simp] theorem lenOf_nil : lenOf (.imm (.val (.slice none 0 0))) = some 0 := rfl
@[simp] theorem lenOf_slice (row : List IV) (off len : Nat) (cap : Option Nat) : lenOf (.imm (.slice row off len cap)) = some len := rfl
@[simp] theorem lenOf_osl (id off sz len : Nat) (cap : Option Nat) : lenOf (.osl id off sz len cap) = some len := rfl
@[simp] theorem capOf_slice (row : List IV) (off len : Nat) (cap : Option Nat) : capOf (.imm (.slice row off len cap)) = cap := rfl
@[simp] theorem capOf_osl (id off sz len : Nat) (cap : Option Nat) : capOf (.osl id off sz len cap) = cap := rfl
@[simp] theorem isNil_slice (row : List IV) (off len : Nat) (cap : Option Nat) : isNil (.imm (.slice row off len cap)) = some false := rfl
@[simp] theorem isNil_ptr (row : List IV) (off : Nat) : isNil (.imm (.ptr row off)) = some false := rfl
@[simp] theorem isNil_osl (id off sz len : Nat) (cap : Option Nat) : isNil (.osl id off sz len cap) = some false := rfl
@[simp] theorem isNil_optr (id off : Nat) : isNil (.optr id off) = some false := rfl
@[simp] theorem isNil_omap (id : Nat) : isNil (.omap id) = some false := rfl
@[simp] theorem isNil_pnone : isNil (.imm (.val (.pointer none))) = some true := rfl
@[simp] theorem isNilK_snone : isNilK 0 (.imm (.val (.slice none 0 0))) = some true := rfl
@[simp] theorem isNilK_slice (row : List IV) (off len : Nat) (cap : Option Nat) : isNilK 0 (.imm (.slice row off len cap)) = some false := rfl
@[simp] theorem isNilK_osl (id off sz len : Nat) (cap : Option Nat) : isNilK 0 (.osl id off sz len cap) = some false := rfl
@[simp] theorem isNilK_pnone : isNilK 1 (.imm (.val (.pointer none))) = some true := rfl
@[simp] theorem isNilK_ptr (row : List IV) (off : Nat) : isNilK 1 (.imm (.ptr row off)) = some false := rfl
@[simp] theorem isNilK_optr (id off : Nat) : isNilK 1 (.optr id off) = some false := rfl

@[simp] theorem int_beq (a b : Int) : (a == b) = decide (a = b) := by by_cases h : a = b <;> simp [h]
theorem bytes_toList {a b : ByteArray} (h : a.toList = b.toList) : a = b := by
  have e : ∀ c : ByteArray, c.toList = c.data.toList := ByteArray.toList_eq
  rw [e, e] at h
  cases a; cases b
  simp at h
  exact congrArg ByteArray.mk h
@[simp] theorem bytes_beq (a b : ByteArray) : (a.toList == b.toList) = decide (a = b) := by
  by_cases h : a = b
  · subst h; simp
  · have : a.toList ≠ b.toList := fun e => h (bytes_toList e)
    simp [h, this]

@[simp] theorem cut_zero {β : Type} (l : List β) : cut l 0 0 = some [] := by simp [cut]
@[simp] theorem cut_cons_zero {β : Type} (x : β) (l : List β) (n : Nat) : cut (x :: l) 0 (n + 1) = (cut l 0 n).map (x :: ·) := by
  simp only [cut, List.drop_zero, List.take_succ_cons, List.length_cons]
  by_cases h : (l.take n).length = n
  · rw [if_pos h, if_pos (by omega)]; rfl
  · rw [if_neg h, if_neg (by omega)]; rfl
@[simp] theorem cut_cons_succ {β : Type} (x : β) (l : List β) (o n : Nat) : cut (x :: l) (o + 1) n = cut l o n := by simp [cut]

@[simp] theorem setAll_nil {β : Type} (l : List β) (o : Nat) : setAll l o [] = l := rfl
@[simp] theorem setAll_cons_succ {β : Type} (x : β) : ∀ (ys l : List β) (o : Nat), setAll (x :: l) (o + 1) ys = x :: setAll l o ys
  | [], l, o => rfl
  | y :: ys, l, o => by rw [setAll, List.set_cons_succ, setAll_cons_succ x ys]; rfl
@[simp] theorem setAll_cons_zero {β : Type} (x y : β) (l ys : List β) : setAll (x :: l) 0 (y :: ys) = y :: setAll l 0 ys := by
  rw [setAll, List.set_cons_zero, setAll_cons_succ]

@[simp] theorem imms_imm : ∀ (l : List IV), imms (l.map .imm) = some l
  | [] => rfl
  | x :: l => by simp [imms, imms_imm l]

@[simp] theorem copies_0 {β : Type} (l : List β) : copies 0 l = [] := rfl
@[simp] theorem copies_1 {β : Type} (l : List β) : copies 1 l = l := by simp [copies]
@[simp] theorem copies_2 {β : Type} (l : List β) : copies 2 l = l ++ l := by simp [copies]
@[simp] theorem copies_3 {β : Type} (l : List β) : copies 3 l = l ++ (l ++ l) := by simp [copies]
@[simp] theorem copies_4 {β : Type} (l : List β) : copies 4 l = l ++ (l ++ (l ++ l)) := by simp [copies]

/-- The cells of many. -/
def Ty.row {α : Type} (t : Ty α) (xs : List α) : List IV := xs.flatMap t.enc

abbrev nilS : AV := .imm (.val (.slice none 0 0))
abbrev int64 (n : Int) : AV := .imm (.val (.int .i64 n))
abbrev avb (b : Bool) : AV := .imm (.val (.bool b))

/-- Whatever holds ahead of each round, with a number that falls. -/
theorem loop_rule {code : Nat → Option XFun} {ext : Calls'} {keep : List Nat} {b : XCode} (I : Nat → St → Prop) (Q : XExit → St → Prop)
    (h : ∀ n s, I n s → ∃ e s', den code ext b (s.tidy keep) = some (e, s') ∧ ((e = .normal ∧ ∃ m, m < n ∧ I m s') ∨ (e ≠ .normal ∧ Q e s'))) : ∀ n s, I n s → ∃ e s', den code ext (.loop keep b) s = some (e, s') ∧ e ≠ .normal ∧ Q e s' := by
  intro n
  induction n using Nat.strongRecOn with
  | ind n ih =>
    intro s hs
    obtain ⟨e, s', h1, h2⟩ := h n s hs
    rw [den_loop, h1]
    rcases h2 with ⟨rfl, m, hm, hI⟩ | ⟨hne, hq⟩
    · exact ih m hm s' hI
    · refine ⟨e, s', ?_, hne, hq⟩
      cases e with
      | normal => exact absurd rfl hne
      | exit id => rfl
      | ret => rfl

theorem andThen_ite (c : Prop) [Decidable c] (a b : Option (XExit × St)) (f : St → Option (XExit × St)) : andThen (if c then a else b) f = if c then andThen a f else andThen b f := by split <;> rfl
theorem blockOut_ite (id : Nat) (c : Prop) [Decidable c] (a b : Option (XExit × St)) : blockOut id (if c then a else b) = if c then blockOut id a else blockOut id b := by split <;> rfl
theorem funOut_ite (f : XFun) (c : Prop) [Decidable c] (a b : Option (XExit × St)) : funOut f (if c then a else b) = if c then funOut f a else funOut f b := by split <;> rfl

theorem wrapI64 {x : Int} (h1 : -9223372036854775808 ≤ x) (h2 : x ≤ 9223372036854775807) : IntKind.wrap .i64 x = x := by
  simp only [IntKind.wrap, IntKind.signed, IntKind.bits]
  simp
  omega

theorem wrapU8 {x : Int} (h1 : 0 ≤ x) (h2 : x ≤ 255) : IntKind.wrap .u8 x = x := by
  simp only [IntKind.wrap, IntKind.signed, IntKind.bits]
  simp
  omega

theorem wrapU64 {x : Int} (h1 : 0 ≤ x) (h2 : x ≤ 18446744073709551615) : IntKind.wrap .u64 x = x := by
  simp only [IntKind.wrap, IntKind.signed, IntKind.bits]
  simp
  omega

theorem wfI64 {n : Int} : (tInt .i64).wf n ↔ -9223372036854775808 ≤ n ∧ n ≤ 9223372036854775807 := by
  simp [tInt, Lit.wf, IntKind.min, IntKind.max, IntKind.signed, IntKind.bits]

theorem wfU8 {n : Int} : (tInt .u8).wf n ↔ 0 ≤ n ∧ n ≤ 255 := by
  simp [tInt, Lit.wf, IntKind.min, IntKind.max, IntKind.signed, IntKind.bits]

section
variable {α : Type} {t : Ty α} {iv : IV} {xs : List α}

theorem reads_len (h : Reads t iv xs) : lenOf (.imm iv) = some xs.length := by
  obtain ⟨_, _, ⟨rfl, rfl⟩ | ⟨row, off, cap, rfl, _⟩⟩ := h
  · rfl
  · rfl

theorem cut_some {β : Type} {l : List β} {o n : Nat} {r : List β} (h : cut l o n = some r) : r = (l.drop o).take n ∧ r.length = n := by
  unfold cut at h
  dsimp only at h
  split at h
  · rename_i h1; cases h; exact ⟨rfl, h1⟩
  · cases h

theorem cut_mk {β : Type} {l : List β} {o n : Nat} {r : List β} (h : (l.drop o).take n = r) (hl : r.length = n) : cut l o n = some r := by
  unfold cut
  dsimp only
  rw [h, if_pos hl]

theorem cut_cut {β : Type} {l : List β} {o n : Nat} {r : List β} (h : cut l o n = some r) {a b : Nat} (hab : a + b ≤ n) : cut l (o + a) b = cut r a b := by
  obtain ⟨rfl, hl⟩ := cut_some h
  unfold cut
  dsimp only
  rw [List.drop_take, List.drop_drop, List.take_take]
  have : min b (n - a) = b := by omega
  rw [this]

theorem flatMap_cut (h0 : ∀ x, (t.enc x).length = t.sz) : ∀ (xs : List α) (i k : Nat), i + k ≤ xs.length → cut (xs.flatMap t.enc) (i * t.sz) (k * t.sz) = some (((xs.drop i).take k).flatMap t.enc) := by
  intro xs i k hk
  refine cut_mk ?_ ?_
  · have hdrop : ∀ (i : Nat) (l : List α), (l.flatMap t.enc).drop (i * t.sz) = (l.drop i).flatMap t.enc := by
      intro i
      induction i with
      | zero => intro l; simp
      | succ i ih =>
        intro l
        cases l with
        | nil => simp
        | cons x l =>
          rw [List.flatMap_cons, Nat.add_mul, Nat.one_mul, Nat.add_comm, List.drop_append]
          have hx := h0 x
          rw [List.drop_eq_nil_of_le (by omega)]
          have : t.sz + i * t.sz - (t.enc x).length = i * t.sz := by omega
          rw [this, ih]; simp
    have htake : ∀ (k : Nat) (l : List α), (l.flatMap t.enc).take (k * t.sz) = (l.take k).flatMap t.enc := by
      intro k
      induction k with
      | zero => intro l; simp
      | succ i ih =>
        intro l
        cases l with
        | nil => simp
        | cons x l =>
          rw [List.flatMap_cons, Nat.add_mul, Nat.one_mul, Nat.add_comm, List.take_append]
          have hx := h0 x
          rw [List.take_of_length_le (by omega)]
          have : t.sz + i * t.sz - (t.enc x).length = i * t.sz := by omega
          rw [this, ih]; simp
    rw [hdrop, htake]
  · rw [flatMap_len _ _ h0]
    simp only [List.length_take, List.length_drop]
    congr 1
    omega

theorem row_len (t : Ty α) (xs : List α) : (t.row xs).length = xs.length * t.sz := flatMap_len _ _ t.len xs

theorem row_snoc (t : Ty α) (xs : List α) (x : α) : t.row xs ++ t.enc x = t.row (xs ++ [x]) := by simp [Ty.row]

theorem cut_row (t : Ty α) (xs : List α) : cut (t.row xs) 0 (xs.length * t.sz) = some (t.row xs) := cut_all _ (row_len t xs)

theorem row_append (t : Ty α) (xs ys : List α) : t.row (xs ++ ys) = t.row xs ++ t.row ys := by simp [Ty.row]

theorem row_one (t : Ty α) (x : α) : t.row [x] = t.enc x := by simp [Ty.row]

theorem row_nil (t : Ty α) : t.row [] = [] := rfl

theorem flat_elem {i : Nat} {x : α} (hx : xs[i]? = some x) : cut (t.row xs) (i * t.sz) t.sz = some (t.enc x) := by
  obtain ⟨hi, hxi⟩ := List.getElem?_eq_some_iff.1 hx
  have := flatMap_cut t.len xs i 1 hi
  rw [Nat.one_mul] at this
  rw [Ty.row, this, List.drop_eq_getElem_cons hi, hxi]
  simp

theorem reads_pos (h : Reads t iv xs) {i : Nat} {x : α} (hx : xs[i]? = some x) : ∃ row off cap, iv = .slice row off xs.length cap ∧ (∀ c, cap = some c → xs.length ≤ c) ∧ cut row off (xs.length * t.sz) = some (xs.flatMap t.enc) ∧
    cut row (off + i * t.sz) t.sz = some (t.enc x) := by
  obtain ⟨_, _, ⟨rfl, rfl⟩ | ⟨row, off, cap, rfl, hc, hcut⟩⟩ := h
  · simp at hx
  · refine ⟨row, off, cap, rfl, hc, hcut, ?_⟩
    have hi := (List.getElem?_eq_some_iff.1 hx)
    obtain ⟨hi, hxi⟩ := hi
    have : i * t.sz + t.sz ≤ xs.length * t.sz := by
      rw [← Nat.succ_mul]; exact Nat.mul_le_mul_right _ hi
    rw [cut_cut hcut this]
    have := flatMap_cut t.len xs i 1 hi
    rw [Nat.one_mul] at this
    rw [this]
    congr 1
    rw [List.drop_eq_getElem_cons hi, hxi]
    simp

theorem cut_one {β : Type} {l : List β} {o : Nat} {y : β} (h : cut l o 1 = some [y]) : l[o]? = some y := by
  obtain ⟨h1, _⟩ := cut_some h
  have : ((l.drop o).take 1)[0]? = some y := by rw [← h1]; rfl
  rw [List.getElem?_take, if_pos (by omega), List.getElem?_drop] at this
  simpa using this

theorem reads_cut {row : List IV} {off : Nat} {cap : Option Nat} {n : Nat} (h : Reads t (.slice row off n cap) xs) {lo hi : Nat} (h1 : lo ≤ hi) (h2 : hi ≤ n) :
    Reads t (.slice row (off + lo * t.sz) (hi - lo) (cap.map (· - lo))) ((xs.drop lo).take (hi - lo)) := by
  obtain ⟨hw, hm, ⟨h0, _⟩ | ⟨row', off', cap', h3, hc, hcut⟩⟩ := h
  · cases h0
  · cases h3
    have hl : ((xs.drop lo).take (hi - lo)).length = hi - lo := by simp; omega
    refine ⟨fun x hx => hw x (List.drop_subset lo xs (List.take_subset _ _ hx)), by omega, .inr ⟨row, off + lo * t.sz, cap.map (· - lo), by rw [hl], fun c hcc => ?_, ?_⟩⟩
    · cases cap with
      | none => cases hcc
      | some k => simp at hcc; have := hc k rfl; omega
    · rw [hl]
      have : lo * t.sz + (hi - lo) * t.sz ≤ xs.length * t.sz := by
        rw [← Nat.add_mul]; exact Nat.mul_le_mul_right _ (by omega)
      rw [cut_cut hcut this]
      exact flatMap_cut t.len xs lo (hi - lo) (by omega)

theorem exSlice_hi (h : Reads t iv xs) {hi : Nat} (h1 : hi ≤ xs.length) : ∃ jv, exSlice t.sz (.imm iv) none (some (int64 hi)) = some (.imm jv) ∧ Reads t jv (xs.take hi) := by
  have hh := h
  obtain ⟨hw, hm, ⟨rfl, rfl⟩ | ⟨row, off, cap, rfl, hc, hcut⟩⟩ := hh
  · simp at h1; subst h1
    exact ⟨_, rfl, h⟩
  · have := reads_cut h (Nat.zero_le hi) h1
    refine ⟨_, ?_, by simpa using this⟩
    have hb : hi ≤ cap.getD xs.length := by cases cap with
      | none => exact h1
      | some k => exact Nat.le_trans h1 (hc k rfl)
    simp [exSlice, hb]

theorem exSlice_lo (h : Reads t iv xs) {lo : Nat} (h1 : lo ≤ xs.length) : ∃ jv, exSlice t.sz (.imm iv) (some (int64 lo)) none = some (.imm jv) ∧ Reads t jv (xs.drop lo) := by
  have hh := h
  obtain ⟨hw, hm, ⟨rfl, rfl⟩ | ⟨row, off, cap, rfl, hc, hcut⟩⟩ := hh
  · simp at h1; subst h1
    exact ⟨_, rfl, h⟩
  · have := reads_cut h h1 (Nat.le_refl _)
    rw [List.take_of_length_le (by simp)] at this
    refine ⟨_, ?_, this⟩
    have hb : xs.length ≤ cap.getD xs.length := by cases cap with
      | none => exact Nat.le_refl _
      | some k => exact hc k rfl
    simp [exSlice, hb, h1]

theorem reads_row (t : Ty α) (xs : List α) {cap : Option Nat} (hw : ∀ x ∈ xs, t.wf x) (hl : xs.length ≤ 140737488355328) (hc : ∀ c, cap = some c → xs.length ≤ c) : Reads t (.slice (t.row xs) 0 xs.length cap) xs :=
  ⟨hw, hl, .inr ⟨_, 0, cap, rfl, hc, cut_all _ (row_len t xs)⟩⟩

/-- What the interpreter made anew, read by content. -/
theorem reads_new {row : List IV} {cap : Option Nat} (hw : ∀ x ∈ xs, t.wf x) (hl : xs.length ≤ 140737488355328) (hc : ∀ c, cap = some c → xs.length ≤ c) (h : cut row 0 (xs.length * t.sz) = some (xs.flatMap t.enc)) : Reads t (.slice row 0 xs.length cap) xs :=
  ⟨hw, hl, .inr ⟨row, 0, cap, rfl, hc, h⟩⟩

theorem elems_reads (m : Mem) (h : Reads t iv xs) : elems m t.sz (.imm iv) = some (xs.length, t.row xs) := by
  obtain ⟨hw, hm, ⟨rfl, rfl⟩ | ⟨row, off, cap, rfl, hc, hcut⟩⟩ := h
  · rfl
  · simp only [elems, hcut, Option.map_some, Ty.row]

theorem shorten_reads (h : Reads t iv xs) : shorten xs.length (.imm iv) = .imm iv := by
  obtain ⟨hw, hm, ⟨rfl, rfl⟩ | ⟨row, off, cap, rfl, hc, hcut⟩⟩ := h <;> rfl

theorem setAll_whole {β : Type} : ∀ (l ys : List β), l.length = ys.length → setAll l 0 ys = ys := by
  intro l ys h
  refine List.ext_getElem? fun j => ?_
  rw [setAll_get]
  split
  · simp
  · rename_i hn
    have : ys.length ≤ j := by omega
    rw [List.getElem?_eq_none (by omega), List.getElem?_eq_none this]

theorem setAll_len {β : Type} : ∀ (ys l : List β) (o : Nat), (setAll l o ys).length = l.length
  | [], l, o => rfl
  | y :: ys, l, o => by rw [setAll, setAll_len ys, List.length_set]

theorem setAll_at {β : Type} : ∀ (ys l : List β) (o j : Nat), o + ys.length ≤ l.length → (setAll l o ys)[j]? = if o ≤ j ∧ j < o + ys.length then ys[j - o]? else l[j]?
  | [], l, o, j, h => by simp [setAll]; omega
  | y :: ys, l, o, j, h => by
    simp only [List.length_cons] at h ⊢
    rw [setAll, setAll_at ys (l.set o y) (o + 1) j (by rw [List.length_set]; omega), List.getElem?_set]
    by_cases h1 : o = j
    · subst h1
      have e1 : ¬ (o + 1 ≤ o ∧ o < o + 1 + ys.length) := by omega
      rw [if_neg e1, if_pos rfl, if_pos (by omega), if_pos (by omega)]
      simp
    · by_cases h2 : o + 1 ≤ j ∧ j < o + 1 + ys.length
      · have e3 : j - o = (j - (o + 1)) + 1 := by omega
        rw [if_pos h2, if_pos (by omega), e3]
        simp
      · rw [if_neg h2, if_neg h1, if_neg (by omega)]

theorem setAll_flat (h0 : 0 < t.sz) {i : Nat} (hi : i < xs.length) (x : α) : setAll (t.row xs) (i * t.sz) (t.enc x) = t.row (xs.set i x) := by
  unfold Ty.row
  have hle : i * t.sz + (t.enc x).length ≤ (xs.flatMap t.enc).length := by
    rw [flatMap_len _ _ t.len, t.len, ← Nat.succ_mul]
    exact Nat.mul_le_mul_right _ hi
  refine List.ext_getElem? fun j => ?_
  rw [setAll_at _ _ _ _ hle, flatMap_get _ _ h0 t.len, flatMap_get _ _ h0 t.len, t.len, List.getElem?_set]
  by_cases h : i * t.sz ≤ j ∧ j < i * t.sz + t.sz
  · have h1 : j / t.sz = i := by
      exact Nat.div_eq_of_lt_le h.1 (by rw [Nat.add_mul, Nat.one_mul]; exact h.2)
    have h2 : j % t.sz = j - i * t.sz := by
      have := Nat.div_add_mod j t.sz
      rw [h1, Nat.mul_comm] at this
      omega
    rw [if_pos h, h1, h2, if_pos rfl, if_pos hi]; rfl
  · have h1 : ¬ (i = j / t.sz) := by
      intro e
      have h2 := Nat.div_add_mod j t.sz
      have h3 := Nat.mod_lt j h0
      rw [← e, Nat.mul_comm] at h2
      omega
    rw [if_neg h, if_neg h1]

theorem copies_flat (n : Nat) (x : α) : copies n (t.enc x) = t.row (List.replicate n x) := by
  unfold Ty.row
  induction n with
  | zero => rfl
  | succ n ih => simp [copies, List.replicate_succ, ih]

end
end Go.EX
